/- Texts of this seat, one behind the other: what SigmaEithers leans on. No condition beyond those that each names. -/
import Derived.Test.YtdlnnkbigeiilaaGreatZSigmaEithers5
import Derived.Deep.OwnRows
import Derived.Outline

set_option maxRecDepth 100000
set_option maxHeartbeats 4000000
set_option linter.unusedVariables false
set_option linter.unusedSimpArgs false
namespace Go.Proofs.YtdlnnkbigeiilaaGreat
open Go.RowKit
def limN (m n : Nat) : List Value := [.int .u64 (dig (mont m n) 0 : Int), .int .u64 (dig (mont m n) 1 : Int), .int .u64 (dig (mont m n) 2 : Int), .int .u64 (dig (mont m n) 3 : Int)]
def powC (G : GP) (x : Nat) (b : ByteArray) : List Value := limN G.p.m (numOf b ^ (x % G.q.m))
theorem powC_len (G : GP) (x : Nat) (b : ByteArray) : (powC G x b).length = 4 := rfl
theorem SetAt.at {G : GP} {w : World} {a : Option Addr} {rs : List ClaimR} (h : SetAt G w a rs) (i : Nat) (hi : i < rs.length) : ∃ b o, a = some ⟨b, o, none⟩ ∧ b < w.heap.size :=
 let ⟨b, o, e, hb, _⟩ := h.s.elem ClaimR.cells_len (by omega) i hi
 ⟨b, o, e, hb⟩
theorem SetAt.cells {G : GP} {w w1 : World} {b o : Nat} {rs : List ClaimR} (h : SetAt G w (some ⟨b, o, none⟩) rs) (hb : Below w.heap.size w w1) (i : Nat) (hi : i < rs.length) : ∀ j v, (rs[i].cells)[j]? = some v → w1.cell? ⟨b, o + i * 3 + j, none⟩ = some v :=
 ((h.s.up hb).elemS ClaimR.cells_len (by omega) i hi).2
theorem powers_any (G : GP) (ok : G.Ok) (gb : Nat) (rs : List ClaimR) (a : Option Addr) (c i : Nat) (hi : i < rs.length) (x : Nat) (hlen : rs[i].k.bases.length ≤ 8) (w : World) (hG : GroupAt w gb G) (hS : SetAt G w a rs) :
  Calls Tryz.prog 118 #[.agg #[.pointer (some ⟨gb, 0, none⟩), .slice a rs.length c], .int .i64 (i : Int), scV G x] w
   (fun e w' => ∃ a' c', e = .returned (.slice a' rs[i].k.bases.length c') ∧ Below w.heap.size w w' ∧ Sl w' w'.heap.size a' (rs[i].k.bases.flatMap (powC G x))) := by
 obtain ⟨ba, oa, rfl, hba⟩ := hS.at i hi
 have HCC := Lib.hid (fun w1 (hb : Below w.heap.size w w1) => hS.cells hb i hi)
 have HRB := Lib.hid (hS.e _ (List.getElem_mem hi)).b
 have HBA := Lib.hid hba
 have HGB := Lib.hid hG.lt
 have HG := Lib.hid hG
 have OK := Lib.hid ok
 have hin : (i : Nat) < rs.length := hi
 generalize rs[i] = r at *
 generalize rs.length = n at *
 obtain ⟨m, hm⟩ : ∃ m, r.k.bases.length = m := ⟨_, rfl⟩
 have HM := Lib.hid hm
 rw [hm] at hlen ⊢
 clear hS hba hG ok hm hi
 unfold scV limbV
 have hc_1 := HCC.out w (Below.refl _ _) 1 _ rfl
 rw [HM.out] at hc_1
 have hba9 := HBA.out
 go_enter Tryz.func118, Tryz.ntmps118
 go_wp2_with fail
 have HZS := HBA
 replace HZS := sz HZS HGB.out
 obtain ⟨w1, hq1, hb9, hz9, Hbs, Hbx⟩ := new2 w 64 [.pointer (some ⟨gb, 0, none⟩), .slice (some ⟨ba, oa, none⟩) n c] 72 [.int .u64 (dig (mont G.q.m x) 0 : Int), .int .u64 (dig (mont G.q.m x) 1 : Int), .int .u64 (dig (mont G.q.m x) 2 : Int), .int .u64 (dig (mont G.q.m x) 3 : Int)]
 rw [hq1]
 clear hq1
 replace HG := Lib.hid (HG.out.up hb9)
 have HB := Lib.hid hb9
 replace HZS := sz HZS hz9.out
 clear hb9 hz9
 have bs_ := Hbs.out.c2
 have bx_ := Hbx.out.c4
 have BL := Lib.hid (Below.refl w1.heap.size w1)
 clear hc_1 hba9
 go_wp2_with fail
 go_loopw [17, 7] (fun i v wr => ∃ (j : Nat) (g : Option Addr) (c9 : Nat), j ≤ m ∧ i = .int .i64 j ∧ v = .slice g j c9 ∧ Hid (Below w1.heap.size w1 wr) ∧ Hid (RowO w1.heap.size wr 127 4 (.slice g j c9) j ((r.k.bases.take j).flatMap (powC G x)))) (fun i _ _ => m - (intOf i).toNat)
 case atStart => exact ⟨0, none, 0, Nat.zero_le _, rfl, rfl, BL, RowO.nil⟩
 case round =>
  obtain ⟨j, g, c9, hj, rfl, rfl, HL9, Hr⟩ := hrel
  have hb9 := HL9.out
  clear HL9 bs_
  replace Hbs := Lib.hid (Hbs.out.up hb9)
  clear bx_
  replace Hbx := Lib.hid (Hbx.out.up hb9)
  replace HG := Lib.hid (HG.out.up hb9)
  replace BL := hbu BL hb9
  replace HB := hbu HB hb9
  replace HZS := sz HZS hb9.size
  clear hb9
  have bs_ := Hbs.out.c2
  have bx_ := Hbx.out.c4
  by_cases hjm : j < m
  ·have hjl : j < r.k.bases.length := by rw [HM.out]; exact hjm
   have hce := ((HRB.out.up HB.out).elemS (limC_len _) (by omega) j hjl).2
   have HSN := Lib.hid (flat_snoc (powC G x) r.k.bases j hjl)
   generalize r.k.bases[j] = b at *
   have hce_0 := hce 0 _ rfl
   rw [Nat.add_zero] at hce_0
   have hce_1 := hce 1 _ rfl
   have hce_2 := hce 2 _ rfl
   have hce_3 := hce 3 _ rfl
   clear hce
   have o2_bs_ := bs_; clear bs_
   have o2_bx_ := bx_; clear bx_
   obtain ⟨w2, hq2, hb9, hz9, Hbe⟩ := new1 wr 127 [.int .u64 (dig (mont G.p.m (numOf b)) 0 : Int), .int .u64 (dig (mont G.p.m (numOf b)) 1 : Int), .int .u64 (dig (mont G.p.m (numOf b)) 2 : Int), .int .u64 (dig (mont G.p.m (numOf b)) 3 : Int)]
   replace Hbs := Lib.hid (Hbs.out.up hb9)
   replace Hbx := Lib.hid (Hbx.out.up hb9)
   replace HG := Lib.hid (HG.out.up hb9)
   replace Hr := Lib.hid (Hr.out.up hb9)
   replace BL := hbu BL hb9
   replace HB := hbu HB hb9
   replace HZS := sz HZS hz9.out
   clear hb9 hz9
   have bs_ := Hbs.out.c2
   have bx_ := Hbx.out.c4
   have be_ := Hbe.out.c4
   go_wp2_with fail
   clear hq2 o2_bx_ o2_bs_ hce_0 hce_1 hce_2 hce_3
   refine (gPower_any G OK.out gb (numOf b) x w2 HG.out).mono ?_
   rintro e w3 ⟨rfl, hb9⟩
   clear bs_
   replace Hbs := Lib.hid (Hbs.out.up hb9)
   clear bx_
   replace Hbx := Lib.hid (Hbx.out.up hb9)
   clear be_
   replace Hbe := Lib.hid (Hbe.out.up hb9)
   replace HG := Lib.hid (HG.out.up hb9)
   replace Hr := Lib.hid (Hr.out.up hb9)
   replace BL := hbu BL hb9
   replace HB := hbu HB hb9
   replace HZS := sz HZS hb9.size
   clear hb9
   have bs_ := Hbs.out.c2
   have bx_ := Hbx.out.c4
   have be_ := Hbe.out.c4
   unfold elV limbV
   clear be_ Hbe
   obtain ⟨i9, hi9, hz90, hz91, hz92⟩ := info_parts infoElem
   go_wp2_with (at_builtin; refine wpList_pushR (w1.heap.size) w3 (by have g0 := HZS.out; omega) rfl _ _ 152 rfl 127 i9 _ 4 32 Tryz.underlying152 hi9 hz90 hz91 hz92 rfl (by omega) ((.slice g j c9)) (j) (((r.k.bases.take j).flatMap (powC G x))) rfl Hr.out _ _ _ rfl rfl rfl (by simp [Value.oneCell']) (by omega) (by unfold maxLen; omega) ?_)
   intro g4 c4 w4 hown9 hg9
   clear bs_ bx_
   have hb9 := Below.grown HB.out hg9 (by have g0 := HZS.out; omega) (fun q hq => Nat.le_trans (show w.heap.size ≤ w1.heap.size by have g0 := HZS.out; omega) (Hr.out.lt q hq).1)
   replace Hbs := Lib.hid (Hbs.out.grown hg9 (fun e9 => by have a1 := Hr.out.lt _ e9; have g0 := HZS.out; omega))
   replace Hbx := Lib.hid (Hbx.out.grown hg9 (fun e9 => by have a1 := Hr.out.lt _ e9; have g0 := HZS.out; omega))
   replace HG := Lib.hid (HG.out.grown hg9 (fun e9 => by have a1 := Hr.out.lt _ e9; have g0 := HZS.out; omega))
   replace BL := Lib.hid (Below.grown BL.out hg9 (by have g0 := HZS.out; omega) (fun q hq => Nat.le_trans (show w1.heap.size ≤ w1.heap.size by have g0 := HZS.out; omega) (Hr.out.lt q hq).1))
   replace HZS := sz HZS hg9.size
   clear Hr HB
   have Hr := Lib.hid hown9
   have HB := Lib.hid hb9
   clear hb9 hown9 hg9 hi9 hz90 hz91 hz92
   have bs_ := Hbs.out.c2
   have bx_ := Hbx.out.c4
   go_wp2_with fail
   go_roundw
   case rel => exact ⟨j + 1, _, _, by omega, by go_num, rfl, BL, Hr.out.eq HSN.out.symm rfl⟩
   case measure => simp [intOf]; omega
  ·have hjn : j = m := by omega
   subst hjn
   have hT : r.k.bases.take j = r.k.bases := List.take_of_length_le (by rw [HM.out]; exact Nat.le_refl _)
   rw [hT] at Hr
   clear hT
   go_wp2_with fail
   go_ret
   exact ⟨g, c9, rfl, HB.out, Hr.out.sl⟩
end Go.Proofs.YtdlnnkbigeiilaaGreat
namespace Go.Proofs.YtdlnnkbigeiilaaGreat
open Go.RowKit
end Go.Proofs.YtdlnnkbigeiilaaGreat
namespace Go.Proofs.YtdlnnkbigeiilaaGreat
open Go.RowKit
theorem RowsAt.cell {w0 w : World} {a : Option Addr} {l : List RowA} (h : RowsAt w0 a l) (hb : Below w0.heap.size w0 w) (i : Nat) (hi : i < l.length) :
  ∃ b off, a = some ⟨b, off, none⟩ ∧ b < w0.heap.size ∧ b < w.heap.size ∧ w.cell? ⟨b, off + i, none⟩ = some (.slice l[i].a l[i].l.length l[i].c) := by
 obtain ⟨b, off, e, h1, h2, h3⟩ := h.s.elemUp hb RowA.cells_len (by omega) i hi
 exact ⟨b, off, e, h1, h2, by have := h3 0 _ rfl; rwa [Nat.mul_one, Nat.add_zero] at this⟩
end Go.Proofs.YtdlnnkbigeiilaaGreat
namespace Go.Proofs.YtdlnnkbigeiilaaGreat
open Go.RowKit
theorem bx_made (w : World) (e : TypeId) (z : Value) (n : Nat) : Bx (w.alloc (.cells (madeCells #[z] n) e)) w.heap.size e (List.replicate n z) := by
 have h : madeCells #[z] n = (List.replicate n z).toArray := by
  apply Array.ext
  ·simp [madeCells]
  ·intro i h1 h2
   simp [madeCells, Nat.mod_one]
 rw [h]
 exact Bx.new w e _ _ rfl
theorem mid_get {xs ys : List Value} {v : Value} {j : Nat} (h : xs.length = j) : (xs ++ v :: ys)[j]? = some v := by subst h; simp
theorem mid_set {xs ys : List Value} {v u : Value} {j : Nat} (h : xs.length = j) : (xs ++ v :: ys).set j u = xs ++ u :: ys := by subst h; simp
theorem rows_len (ro : List RowA) : (ro.flatMap RowA.cells).length = ro.length := by rw [flat_len RowA.cells 1 RowA.cells_len, Nat.mul_one]
def eachL (G : GP) (val : Nat → Nat → Nat) (i m : Nat) : List ByteArray := (List.range m).map fun t => textS (lowN G (val i t)) G.size
def RowsR (L : List (List ByteArray)) (w : World) (e : Ending) (w' : World) : Prop :=
 Below w.heap.size w w' ∧ ∃ a c ro, e = .returned (.slice a L.length c) ∧ ro.map RowA.l = L ∧ RowsAt w' a ro ∧ (∀ r ∈ ro, r.Ok)
def RowsF (L : List (List ByteArray)) (w : World) (e : Ending) (w' : World) : Prop :=
 Below w.heap.size w w' ∧ ∃ a c ro, e = .returned (.slice a L.length c) ∧ ro.map RowA.l = L ∧ RowsAt w' a ro ∧ (∀ r ∈ ro, r.Ok) ∧ (∀ x, a = some x → w.heap.size ≤ x.block) ∧ ∀ r ∈ ro, ∀ x, r.a = some x → w.heap.size ≤ x.block
theorem fresh_le {n m : Nat} {a : Option Addr} {ro : List RowA} (h : (∀ r ∈ ro, r.Ok) ∧ (∀ x, a = some x → m ≤ x.block) ∧ ∀ r ∈ ro, ∀ x, r.a = some x → m ≤ x.block) (hn : n ≤ m) : (∀ r ∈ ro, r.Ok) ∧ (∀ x, a = some x → n ≤ x.block) ∧ ∀ r ∈ ro, ∀ x, r.a = some x → n ≤ x.block :=
 ⟨h.1, fun x hx => Nat.le_trans hn (h.2.1 x hx), fun r hr x hx => Nat.le_trans hn (h.2.2 r hr x hx)⟩
def eachA (G : GP) (val : Nat → Nat → Nat) (ms : List Nat) (j : Nat) : List (List ByteArray) := (List.range j).map fun i => eachL G val i (ms.getD i 0)
theorem eachA_snoc (G : GP) (val : Nat → Nat → Nat) (ms : List Nat) (j : Nat) : eachA G val ms (j + 1) = eachA G val ms j ++ [eachL G val j (ms.getD j 0)] := by unfold eachA; rw [List.range_succ, List.map_append]; rfl
theorem eachA_len (G : GP) (val : Nat → Nat → Nat) (ms : List Nat) (j : Nat) : (eachA G val ms j).length = j := by unfold eachA; simp
theorem eachL_snoc (G : GP) (val : Nat → Nat → Nat) (i t : Nat) : (eachL G val i (t + 1)).map Value.string = (eachL G val i t).map Value.string ++ [.string (textS (lowN G (val i t)) G.size)] := by unfold eachL; rw [List.range_succ, List.map_append, List.map_append]; rfl
theorem eachL_len (G : GP) (val : Nat → Nat → Nat) (i t : Nat) : (eachL G val i t).length = t := by unfold eachL; simp
def RowsNew (n : Nat) (w : World) (ro : List RowA) : Prop := ∀ r ∈ ro, RowA.At w r ∧ (∀ x, r.a = some x → n ≤ x.block) ∧ r.Ok
theorem RowsNew.kept {n b : Nat} {w w1 : World} {ro : List RowA} (h : RowsNew n w ro) (hk : Kept (fun q => q = b) w w1) (hb : b < n) : RowsNew n w1 ro := fun r hr =>
 let ⟨h1, h2, h3⟩ := h r hr
 ⟨Sl.kept h1 hk (fun x hx e => by have := h2 x hx; have e : x.block = b := e; omega), h2, h3⟩
theorem infoStrs : (Tryz.prog.info? 23).map (fun i => (i.zero, i.size, i.bytes)) = some (some (.slice none 0 0), 1, 24) := by kernel_rfl
theorem RowO.none_cap {N n c k size : Nat} {w : World} {e : TypeId} {a : Option Addr} {xs : List Value} (h : RowO N w e size (.slice a k c) n xs) (hx : a = none) : c = 0 := by
 rcases h.2 with ⟨hv, _⟩ | ⟨g, cap, cur, hv, hN, _⟩
 ·simp only [Value.slice.injEq] at hv
  exact hv.2.2
 ·simp only [Value.slice.injEq] at hv
  rw [hv.1] at hx
  cases hx
theorem RowO.rowOk {N n c k : Nat} {w : World} {e : TypeId} {a : Option Addr} {L : List ByteArray} (h : RowO N w e 1 (.slice a k c) n (L.map Value.string)) : RowA.Ok ⟨a, c, L⟩ := by
 have hl := h.1
 rw [List.length_map, Nat.mul_one] at hl
 refine ⟨fun hx => RowO.none_cap h hx, ?_⟩
 show L.length ≤ c
 rcases h.2 with ⟨hv, h0⟩ | ⟨g, cap, cur, hv, hN, _, hc, _⟩
 ·omega
 ·simp only [Value.slice.injEq] at hv
  omega
theorem eachFirst (G : GP) (ok : G.Ok) (gb : Nat) (rs : List ClaimR) (n : Nat) (hrs : rs.length = n) (hn : n ≤ 64) (ms : List Nat) (hms : rs.map (fun r => r.k.bases.length) = ms) (hm8 : ∀ r ∈ rs, r.k.bases.length ≤ 8) (a : Option Addr) (c : Nat) (p1 p2 : Value) (val : Nat → Nat → Nat) (w : World) (hG : GroupAt w gb G) (hS : SetAt G w a rs)
  (hcall : ∀ w1, Below w.heap.size w w1 → ∀ i t : Nat, i < n → t < ms.getD i 0 → Calls Tryz.prog 121 #[.int .i64 (i : Int), .int .i64 (t : Int), p1, p2] w1 (Gives (elV G (val i t)) w1)) :
  Calls Tryz.prog 100 #[.agg #[.pointer (some ⟨gb, 0, none⟩), .slice a n c], .func (.func 121) #[] #[p1, p2]] w (RowsF (eachA G val ms n) w) := by
 have HRS := Lib.hid hrs
 have HMS := Lib.hid hms
 have HM8 := Lib.hid hm8
 have HG := Lib.hid hG
 have HGB := Lib.hid hG.lt
 have OK := Lib.hid ok
 have HS := Lib.hid hS
 have HCALL := Lib.hid hcall
 clear hrs hms hm8 hG ok hS hcall
 have hmk := Go.run_make_row' (P := Tryz.prog) 28 23 (.slice none 0 0) 24 Tryz.underlying28 infoStrs rfl .i64 .i64 n (by omega) (by omega)
 go_enter Tryz.func100, Tryz.ntmps100
 have HZS := HGB
 go_upto_region 1 with fail
 obtain ⟨w1, hq1, hb9, hz9, Hbs⟩ := new1 w 64 [.pointer (some ⟨gb, 0, none⟩), .slice a n c]
 rw [hq1]
 clear hq1
 replace HG := Lib.hid (HG.out.up hb9)
 have HB := Lib.hid hb9
 replace HZS := sz HZS hz9.out
 clear hb9 hz9
 have bs_ := Hbs.out.c2
 go_upto_region 2 with fail
 have hmb := bx_made w1 23 (.slice none 0 0) n
 have hb9 : Below w1.heap.size w1 (w1.alloc (.cells (madeCells #[.slice none 0 0] n) 23)) := (Below.refl _ _).alloc (Nat.le_refl _) _
 have hz9 : (w1.alloc (.cells (madeCells #[.slice none 0 0] n) 23)).heap.size = w1.heap.size + 1 := by simp
 obtain ⟨wm, hq9⟩ : ∃ W9 : World, (w1.alloc (.cells (madeCells #[.slice none 0 0] n) 23)) = W9 := ⟨_, rfl⟩
 rw [hq9] at hmb hb9 hz9 ⊢
 clear hq9 hmk
 have HZM := Lib.hid hz9
 have HZ9 := Lib.hid HB.out.size
 clear hz9
 replace HZS := sz HZS HZM.out
 clear bs_
 replace Hbs := Lib.hid (Hbs.out.up hb9)
 replace HG := Lib.hid (HG.out.up hb9)
 replace HB := hbu HB hb9
 replace HZS := sz HZS hb9.size
 clear hb9
 have bs_ := Hbs.out.c2
 have Hob := Lib.hid hmb
 clear hmb
 have HK := Lib.hid (Kept.refl (fun q9 => q9 = w1.heap.size) wm)
 go_wp2_with fail
 go_loopw [15] (fun i wr => ∃ (j : Nat) (ro : List RowA), j ≤ n ∧ i = .int .i64 j ∧ Hid (ro.length = j) ∧ Hid (ro.map RowA.l = eachA G val ms j) ∧ Hid (Kept (fun q => q = w1.heap.size) wm wr) ∧ Hid (Bx wr w1.heap.size 23 (ro.flatMap RowA.cells ++ List.replicate (n - j) (.slice none 0 0))) ∧ Hid (RowsNew wm.heap.size wr ro)) (fun i _ => n - (intOf i).toNat)
 case atStart => exact ⟨0, [], Nat.zero_le _, rfl, rfl, rfl, HK, by simpa using Hob, fun _ h => by cases h⟩
 case round =>
  obtain ⟨j, ro, hj, rfl, HRL, HRM, HK, Hob9, HRN⟩ := hrel
  have hg9 := HK.out
  clear bs_ Hob
  replace Hbs := Lib.hid (Hbs.out.keptP hg9 (show ¬ (w.heap.size = w1.heap.size) by have g0 := HZS.out; omega))
  replace HG := Lib.hid (HG.out.keptP hg9 (show ¬ (_ = w1.heap.size) by have g0 := HZS.out; omega))
  replace HB := Lib.hid (Below.keptP HB.out hg9 (by have g0 := HZS.out; omega) (fun q9 h9 => (show w.heap.size ≤ _ by subst h9; have g0 := HZS.out; omega)))
  replace HZS := sz HZS (show wm.heap.size ≤ wr.heap.size from hg9.size)
  clear hg9
  have bs_ := Hbs.out.c2
  have Hob := Hob9
  clear Hob9
  by_cases hjn : j < n
  ·have hjr : j < rs.length := by rw [HRS.out]; exact hjn
   obtain ⟨ba, oa, rfl, hba0⟩ := HS.out.at j hjr
   have HCC := Lib.hid (fun w1 (hb : Below w.heap.size w w1) => HS.out.cells hb j hjr)
   have HMJ := Lib.hid (show rs[j].k.bases.length = ms.getD j 0 by rw [← HMS.out]; simp [List.getD, hjr])
   have HM1 := Lib.hid (HM8.out _ (List.getElem_mem hjr))
   generalize rs[j] = r at *
   obtain ⟨m, hm⟩ : ∃ m, ms.getD j 0 = m := ⟨_, rfl⟩
   rw [hm] at HMJ
   have HMM := Lib.hid hm
   have hm8 : m ≤ 8 := by rw [← HMJ.out]; exact HM1.out
   rw [show n - j = (n - j - 1) + 1 by omega, List.replicate_succ] at Hob
   clear hm
   obtain ⟨wo, rfl⟩ : ∃ wo : World, wo = wr := ⟨_, rfl⟩
   have hc := HCC.out _ HB.out
   have hc_1 := hc 1 _ rfl
   rw [HMJ.out] at hc_1
   clear hc
   have HRN2 := HRN
   have HK2 := Lib.hid (Kept.refl (fun q9 => q9 = w1.heap.size) wo)
   have hba9 := hba0
   go_wp2_with fail
   clear hc_1 hba9
   go_loopw [25] (fun i wr => ∃ (t : Nat) (g : Option Addr) (c9 : Nat), t ≤ m ∧ i = .int .i64 t ∧ Hid (Kept (fun q => q = w1.heap.size) wo wr) ∧ Hid (Bx wr w1.heap.size 23 (ro.flatMap RowA.cells ++ (.slice g t c9) :: List.replicate (n - j - 1) (.slice none 0 0))) ∧ Hid (RowO wo.heap.size wr 9 1 (.slice g t c9) t ((eachL G val j t).map Value.string))) (fun i _ => m - (intOf i).toNat)
   case atStart => exact ⟨0, none, 0, Nat.zero_le _, rfl, HK2, Hob, RowO.nil⟩
   case round =>
    obtain ⟨t, g, c9, ht, rfl, HK2, Hob9, Hr⟩ := hrel
    have hg9 := HK2.out
    clear bs_ Hob
    replace Hbs := Lib.hid (Hbs.out.keptP hg9 (show ¬ (w.heap.size = w1.heap.size) by have g0 := HZS.out; omega))
    replace HG := Lib.hid (HG.out.keptP hg9 (show ¬ (_ = w1.heap.size) by have g0 := HZS.out; omega))
    replace HB := Lib.hid (Below.keptP HB.out hg9 (by have g0 := HZS.out; omega) (fun q9 h9 => (show w.heap.size ≤ _ by subst h9; have g0 := HZS.out; omega)))
    replace HZS := sz HZS (show wo.heap.size ≤ wr.heap.size from hg9.size)
    clear hg9
    have bs_ := Hbs.out.c2
    have Hob := Hob9
    clear Hob9
    by_cases htm : t < m
    ·have hob : w1.heap.size < wr.heap.size := Hob.out.lt
     have hoc : wr.cell? ⟨w1.heap.size, j, none⟩ = some (.slice g t c9) := Hob.out.cell (mid_get (by rw [rows_len, HRL.out]))
     go_wp2_with fail
     have HT := Lib.hid (show Below wr.heap.size wr wr.drew from (Below.refl _ _).drew)
     have hl_bs := Hbs.out.lt
     refine wp_region_treek (fun wq9 => ∃ E : But wr (Value.ownBlock (.slice g t c9)), wq9 = E.w) 16 ((.qs [0, 1, 2, 3, 4] (.e 5 [] (.qs [6] (.e 7 [] (.qs [8, 9, 10] (.a 11 (.a 12 (.a 13 (.a 14 (.qs [15] (.a 16 .done)))))))))))) (by kernel_rfl) (by kernel_rfl) (fun _ _ d _ _ h => by cases d <;> exact h) ⟨⟨_, ((below_grown HT.out).but _)⟩, rfl⟩ ?_
     have hov_bs := fun (E : But wr (Value.ownBlock (.slice g t c9))) o => E.cell (b := w.heap.size) o hl_bs (by intro e9; have a1 := Hr.out.lt _ e9; have g0 := HZS.out; omega)
     have hov_w1_heap_size := fun (E : But wr (Value.ownBlock (.slice g t c9))) o => E.cell (b := w1.heap.size) o hob (by intro e9; have a1 := Hr.out.lt _ e9; have g0 := HZS.out; omega)
     simp only [TreeK.qs]
     repeat (first | (refine treek_q rfl rfl ?_; go_big_quiet_step (fail); refine wpQuiet_nil ?_) | (refine treek_e rfl rfl ?_; go_big_quiet_step (fail); refine wpQuiet_nil ?_))
     refine treek_a rfl (fun K hK => ?_)
     go_simp
     refine (HCALL.out _ (below_up HB.out HT.out) j t hjn (by rw [HMM.out]; exact htm)).mono ?_
     rintro e w2 ⟨rfl, hb9⟩
     replace HT := Lib.hid (below_up HT.out hb9)
     replace HZS := sz HZS (show wr.heap.size ≤ w2.heap.size from HT.out.size)
     clear hb9
     refine hK _ _ ⟨fun _ => ⟨⟨w2, ((below_grown HT.out).but _)⟩, rfl⟩, ?_⟩
     clear hK K
     repeat (first | (refine treek_q rfl rfl ?_; go_big_quiet_step (fail); refine wpQuiet_nil ?_) | (refine treek_e rfl rfl ?_; go_big_quiet_step (fail); refine wpQuiet_nil ?_))
     refine treek_a rfl (fun K hK => ?_)
     go_simp
     refine (gText_any G OK.out gb (val j t) _ (HG.out.up HT.out)).mono ?_
     rintro e w3 ⟨rfl, hb9⟩
     replace HT := Lib.hid (below_up HT.out hb9)
     replace HZS := sz HZS (show wr.heap.size ≤ w3.heap.size from HT.out.size)
     clear hb9
     refine hK _ _ ⟨fun _ => ⟨⟨w3, ((below_grown HT.out).but _)⟩, rfl⟩, ?_⟩
     clear hK K
     repeat (first | (refine treek_q rfl rfl ?_; go_big_quiet_step (fail); refine wpQuiet_nil ?_) | (refine treek_e rfl rfl ?_; go_big_quiet_step (fail); refine wpQuiet_nil ?_))
     clear hoc hob hov_bs hl_bs hov_w1_heap_size
     refine treek_a rfl (fun K hK => ?_)
     go_simp
     refine hK _ _ ⟨fun _ => ⟨⟨_, (below_grown (HT.out.alloc HT.out.size _)).but _⟩, rfl⟩, ?_⟩
     clear hK K
     obtain ⟨i9, hi9, hz90, hz91, hz92⟩ := info_parts infoStr
     have HG1 := Lib.hid ((below_grown HT.out).but (Value.ownBlock (.slice g t c9)))
     clear bs_
     replace Hbs := Lib.hid (Hbs.out.up HT.out)
     replace Hob := Lib.hid (Hob.out.up HT.out)
     replace HG := Lib.hid (HG.out.up HT.out)
     replace Hr := Lib.hid (Hr.out.up HT.out)
     replace HK2 := Lib.hid (Kept.up HK2.out HT.out)
     replace HB := hbu HB HT.out
     replace HZS := sz HZS HT.out.size
     refine treek_a rfl (fun K hK => ?_)
     refine step_pushF (wo.heap.size) w3 (by have g0 := HZS.out; omega) rfl _ _ 23 rfl 9 i9 _ 1 16 Tryz.underlying23 hi9 hz90 hz91 hz92 rfl (by omega) ((.slice g t c9)) (t) (((eachL G val j t).map Value.string)) rfl Hr.out _ _ _ rfl rfl rfl (by simp [Value.oneCell']) (by omega) (by unfold maxLen; omega) ?_
     intro g4 c4 w4 hown9 hg9 hf9
     have HF9 := Lib.hid hf9
     clear hf9
     have HGR := Lib.hid (HG1.out.trans hg9)
     have hb9 := Below.grown HB.out hg9 (by have g0 := HZS.out; omega) (fun q hq => Nat.le_trans (show w.heap.size ≤ wo.heap.size by have g0 := HZS.out; omega) (Hr.out.lt q hq).1)
     replace Hbs := Lib.hid (Hbs.out.grown hg9 (fun e9 => by have a1 := Hr.out.lt _ e9; have g0 := HZS.out; omega))
     replace Hob := Lib.hid (Hob.out.grown hg9 (fun e9 => by have a1 := Hr.out.lt _ e9; have g0 := HZS.out; omega))
     replace HG := Lib.hid (HG.out.grown hg9 (fun e9 => by have a1 := Hr.out.lt _ e9; have g0 := HZS.out; omega))
     replace HK2 := Lib.hid (Kept.grown HK2.out hg9 (fun q hq => Or.inl (Nat.le_trans (show wo.heap.size ≤ wo.heap.size by have g0 := HZS.out; omega) (Hr.out.lt q hq).1)))
     replace HZS := sz HZS hg9.size
     clear Hr HB HT HG1
     have Hr := Lib.hid hown9
     have HB := Lib.hid hb9
     clear hb9 hown9 hg9 hi9 hz90 hz91 hz92
     refine hK _ _ ⟨fun _ => ⟨⟨w4, HGR.out⟩, rfl⟩, ?_⟩
     clear hK K HGR
     try simp only [Act.put, List.setIfInBounds_toArray, List.set_cons_succ, List.set_cons_zero]
     repeat (first | (refine treek_q rfl rfl ?_; go_big_quiet_step (fail); refine wpQuiet_nil ?_) | (refine treek_e rfl rfl ?_; go_big_quiet_step (fail); refine wpQuiet_nil ?_))
     replace HZS := sz HZS (Hr.out.lt g4 rfl).1
     have hoc := Hob.out.cell (mid_get (v := .slice g t c9) (ys := List.replicate (n - j - 1) (.slice none 0 0)) (show (ro.flatMap RowA.cells).length = j by rw [rows_len, HRL.out]))
     have bs_ := Hbs.out.c2
     have f5_ob := Hob.out.frozen
     have o5_bs_ := bs_; clear bs_
     obtain ⟨w5, hq5, hg9, hz9, hx9⟩ := put1 Hob j (.slice (some ⟨g4, 0, none⟩) (t + 1) c4) _ rfl
     replace Hbs := Lib.hid (Hbs.out.grown hg9.out (sne (by have g0 := HZS.out; omega)))
     replace HG := Lib.hid (HG.out.grown hg9.out (sne (by have g0 := HZS.out; omega)))
     replace Hr := Lib.hid (RowO.grown Hr.out hg9.out (fun q9 e8 e9 => by have a1 := Hr.out.lt _ e8; have a0 := Option.some.inj e9; have g0 := HZS.out; omega))
     replace HK2 := Lib.hid (Kept.grown HK2.out hg9.out (fun q9 e9 => by obtain rfl := Option.some.inj e9; exact Or.inr (rfl)))
     replace HB := hbg HB hg9 (by have g0 := HZS.out; omega)
     replace HZS := sz HZS hz9.out
     replace Hob := hx9
     clear hx9 hg9 hz9
     have bs_ := Hbs.out.c2
     refine treek_a rfl (fun K hK => ?_)
     go_simp
     try rw [hq5]
     refine hK _ _ ⟨fun h9 => absurd rfl h9, ?_⟩
     clear hK K hq5 o5_bs_ f5_ob hoc
     refine treek_end ?_
     go_wp2_with fail
     go_roundw
     case rel => exact ⟨t + 1, _, _, by omega, by go_num, HK2, Lib.hid (by have h9 := Hob.out; rwa [mid_set (by rw [rows_len, HRL.out])] at h9), Hr.out.eq (eachL_snoc G val j t).symm rfl⟩
     case measure => simp [intOf]; omega
    ·have htm' : t = m := by omega
     subst htm'
     have HROW := Lib.hid (show RowsNew wm.heap.size wr (ro ++ [⟨g, c9, eachL G val j t⟩]) from fun x hx => by
      rcases List.mem_append.1 hx with hx | hx
      ·exact (HRN.out.kept HK2.out (by have a0 := HZM.out; omega)) x hx
      ·obtain rfl := List.mem_singleton.1 hx
       exact ⟨Hr.out.sl, fun y hy => Nat.le_trans (by have a1 := HZS.out; omega) (RowO.own_le Hr.out hy), RowO.rowOk Hr.out⟩)
     go_wp2_with fail
     go_roundw
     case rel => exact ⟨j + 1, ro ++ [⟨g, c9, eachL G val j t⟩], by omega, by go_num, Lib.hid (by rw [List.length_append, HRL.out]; rfl), Lib.hid (by rw [List.map_append, HRM.out, eachA_snoc, HMM.out]; rfl), Lib.hid (HK.out.trans HK2.out), Lib.hid (by rw [List.flatMap_append]; have h9 := Hob.out; simpa [RowA.cells, eachL_len, Nat.sub_sub] using h9), HROW⟩
     case measure => simp [intOf]; omega
  ·have hjn' : j = n := by omega
   subst hjn'
   have hsl : Sl wr wr.heap.size (some ⟨w1.heap.size, 0, none⟩) (ro.flatMap RowA.cells) := by
    have h9 := Hob.out
    rw [Nat.sub_self, List.replicate_zero, List.append_nil] at h9
    simpa using Sl.of_block h9
   have HSL := Lib.hid hsl
   clear hsl
   go_wp2_with fail
   go_ret
   exact ⟨HB.out, _, j, ro, by rw [eachA_len]; rfl, HRM.out, ⟨HSL.out, fun r hr => (HRN.out r hr).1⟩, fun r hr => (HRN.out r hr).2.2, fun x hx => by cases hx; show w.heap.size ≤ w1.heap.size; have a0 := HZ9.out; omega, fun r hr x hx => Nat.le_trans (show w.heap.size ≤ wm.heap.size by have a0 := HZ9.out; have a1 := HZM.out; omega) ((HRN.out r hr).2.1 x hx)⟩
theorem eachBack (G : GP) (ok : G.Ok) (gb : Nat) (rs : List ClaimR) (n : Nat) (hrs : rs.length = n) (hn : n ≤ 64) (ms : List Nat) (hms : rs.map (fun r => r.k.bases.length) = ms) (hm8 : ∀ r ∈ rs, r.k.bases.length ≤ 8) (a : Option Addr) (c : Nat) (p1 p2 p3 : Value) (val : Nat → Nat → Nat) (w : World) (hG : GroupAt w gb G) (hS : SetAt G w a rs)
  (hcall : ∀ w1, Below w.heap.size w w1 → ∀ i t : Nat, i < n → t < ms.getD i 0 → Calls Tryz.prog 101 #[.int .i64 (i : Int), .int .i64 (t : Int), p1, p2, p3] w1 (Gives (elV G (val i t)) w1)) :
  Calls Tryz.prog 100 #[.agg #[.pointer (some ⟨gb, 0, none⟩), .slice a n c], .func (.func 101) #[] #[p1, p2, p3]] w (RowsF (eachA G val ms n) w) := by
 have HRS := Lib.hid hrs
 have HMS := Lib.hid hms
 have HM8 := Lib.hid hm8
 have HG := Lib.hid hG
 have HGB := Lib.hid hG.lt
 have OK := Lib.hid ok
 have HS := Lib.hid hS
 have HCALL := Lib.hid hcall
 clear hrs hms hm8 hG ok hS hcall
 have hmk := Go.run_make_row' (P := Tryz.prog) 28 23 (.slice none 0 0) 24 Tryz.underlying28 infoStrs rfl .i64 .i64 n (by omega) (by omega)
 go_enter Tryz.func100, Tryz.ntmps100
 have HZS := HGB
 go_upto_region 1 with fail
 obtain ⟨w1, hq1, hb9, hz9, Hbs⟩ := new1 w 64 [.pointer (some ⟨gb, 0, none⟩), .slice a n c]
 rw [hq1]
 clear hq1
 replace HG := Lib.hid (HG.out.up hb9)
 have HB := Lib.hid hb9
 replace HZS := sz HZS hz9.out
 clear hb9 hz9
 have bs_ := Hbs.out.c2
 go_upto_region 2 with fail
 have hmb := bx_made w1 23 (.slice none 0 0) n
 have hb9 : Below w1.heap.size w1 (w1.alloc (.cells (madeCells #[.slice none 0 0] n) 23)) := (Below.refl _ _).alloc (Nat.le_refl _) _
 have hz9 : (w1.alloc (.cells (madeCells #[.slice none 0 0] n) 23)).heap.size = w1.heap.size + 1 := by simp
 obtain ⟨wm, hq9⟩ : ∃ W9 : World, (w1.alloc (.cells (madeCells #[.slice none 0 0] n) 23)) = W9 := ⟨_, rfl⟩
 rw [hq9] at hmb hb9 hz9 ⊢
 clear hq9 hmk
 have HZM := Lib.hid hz9
 have HZ9 := Lib.hid HB.out.size
 clear hz9
 replace HZS := sz HZS HZM.out
 clear bs_
 replace Hbs := Lib.hid (Hbs.out.up hb9)
 replace HG := Lib.hid (HG.out.up hb9)
 replace HB := hbu HB hb9
 replace HZS := sz HZS hb9.size
 clear hb9
 have bs_ := Hbs.out.c2
 have Hob := Lib.hid hmb
 clear hmb
 have HK := Lib.hid (Kept.refl (fun q9 => q9 = w1.heap.size) wm)
 go_wp2_with fail
 go_loopw [15] (fun i wr => ∃ (j : Nat) (ro : List RowA), j ≤ n ∧ i = .int .i64 j ∧ Hid (ro.length = j) ∧ Hid (ro.map RowA.l = eachA G val ms j) ∧ Hid (Kept (fun q => q = w1.heap.size) wm wr) ∧ Hid (Bx wr w1.heap.size 23 (ro.flatMap RowA.cells ++ List.replicate (n - j) (.slice none 0 0))) ∧ Hid (RowsNew wm.heap.size wr ro)) (fun i _ => n - (intOf i).toNat)
 case atStart => exact ⟨0, [], Nat.zero_le _, rfl, rfl, rfl, HK, by simpa using Hob, fun _ h => by cases h⟩
 case round =>
  obtain ⟨j, ro, hj, rfl, HRL, HRM, HK, Hob9, HRN⟩ := hrel
  have hg9 := HK.out
  clear bs_ Hob
  replace Hbs := Lib.hid (Hbs.out.keptP hg9 (show ¬ (w.heap.size = w1.heap.size) by have g0 := HZS.out; omega))
  replace HG := Lib.hid (HG.out.keptP hg9 (show ¬ (_ = w1.heap.size) by have g0 := HZS.out; omega))
  replace HB := Lib.hid (Below.keptP HB.out hg9 (by have g0 := HZS.out; omega) (fun q9 h9 => (show w.heap.size ≤ _ by subst h9; have g0 := HZS.out; omega)))
  replace HZS := sz HZS (show wm.heap.size ≤ wr.heap.size from hg9.size)
  clear hg9
  have bs_ := Hbs.out.c2
  have Hob := Hob9
  clear Hob9
  by_cases hjn : j < n
  ·have hjr : j < rs.length := by rw [HRS.out]; exact hjn
   obtain ⟨ba, oa, rfl, hba0⟩ := HS.out.at j hjr
   have HCC := Lib.hid (fun w1 (hb : Below w.heap.size w w1) => HS.out.cells hb j hjr)
   have HMJ := Lib.hid (show rs[j].k.bases.length = ms.getD j 0 by rw [← HMS.out]; simp [List.getD, hjr])
   have HM1 := Lib.hid (HM8.out _ (List.getElem_mem hjr))
   generalize rs[j] = r at *
   obtain ⟨m, hm⟩ : ∃ m, ms.getD j 0 = m := ⟨_, rfl⟩
   rw [hm] at HMJ
   have HMM := Lib.hid hm
   have hm8 : m ≤ 8 := by rw [← HMJ.out]; exact HM1.out
   rw [show n - j = (n - j - 1) + 1 by omega, List.replicate_succ] at Hob
   clear hm
   obtain ⟨wo, rfl⟩ : ∃ wo : World, wo = wr := ⟨_, rfl⟩
   have hc := HCC.out _ HB.out
   have hc_1 := hc 1 _ rfl
   rw [HMJ.out] at hc_1
   clear hc
   have HRN2 := HRN
   have HK2 := Lib.hid (Kept.refl (fun q9 => q9 = w1.heap.size) wo)
   have hba9 := hba0
   go_wp2_with fail
   clear hc_1 hba9
   go_loopw [25] (fun i wr => ∃ (t : Nat) (g : Option Addr) (c9 : Nat), t ≤ m ∧ i = .int .i64 t ∧ Hid (Kept (fun q => q = w1.heap.size) wo wr) ∧ Hid (Bx wr w1.heap.size 23 (ro.flatMap RowA.cells ++ (.slice g t c9) :: List.replicate (n - j - 1) (.slice none 0 0))) ∧ Hid (RowO wo.heap.size wr 9 1 (.slice g t c9) t ((eachL G val j t).map Value.string))) (fun i _ => m - (intOf i).toNat)
   case atStart => exact ⟨0, none, 0, Nat.zero_le _, rfl, HK2, Hob, RowO.nil⟩
   case round =>
    obtain ⟨t, g, c9, ht, rfl, HK2, Hob9, Hr⟩ := hrel
    have hg9 := HK2.out
    clear bs_ Hob
    replace Hbs := Lib.hid (Hbs.out.keptP hg9 (show ¬ (w.heap.size = w1.heap.size) by have g0 := HZS.out; omega))
    replace HG := Lib.hid (HG.out.keptP hg9 (show ¬ (_ = w1.heap.size) by have g0 := HZS.out; omega))
    replace HB := Lib.hid (Below.keptP HB.out hg9 (by have g0 := HZS.out; omega) (fun q9 h9 => (show w.heap.size ≤ _ by subst h9; have g0 := HZS.out; omega)))
    replace HZS := sz HZS (show wo.heap.size ≤ wr.heap.size from hg9.size)
    clear hg9
    have bs_ := Hbs.out.c2
    have Hob := Hob9
    clear Hob9
    by_cases htm : t < m
    ·have hob : w1.heap.size < wr.heap.size := Hob.out.lt
     have hoc : wr.cell? ⟨w1.heap.size, j, none⟩ = some (.slice g t c9) := Hob.out.cell (mid_get (by rw [rows_len, HRL.out]))
     go_wp2_with fail
     have HT := Lib.hid (show Below wr.heap.size wr wr.drew from (Below.refl _ _).drew)
     have hl_bs := Hbs.out.lt
     refine wp_region_treek (fun wq9 => ∃ E : But wr (Value.ownBlock (.slice g t c9)), wq9 = E.w) 16 ((.qs [0, 1, 2, 3, 4] (.e 5 [] (.qs [6] (.e 7 [] (.qs [8, 9, 10] (.a 11 (.a 12 (.a 13 (.a 14 (.qs [15] (.a 16 .done)))))))))))) (by kernel_rfl) (by kernel_rfl) (fun _ _ d _ _ h => by cases d <;> exact h) ⟨⟨_, ((below_grown HT.out).but _)⟩, rfl⟩ ?_
     have hov_bs := fun (E : But wr (Value.ownBlock (.slice g t c9))) o => E.cell (b := w.heap.size) o hl_bs (by intro e9; have a1 := Hr.out.lt _ e9; have g0 := HZS.out; omega)
     have hov_w1_heap_size := fun (E : But wr (Value.ownBlock (.slice g t c9))) o => E.cell (b := w1.heap.size) o hob (by intro e9; have a1 := Hr.out.lt _ e9; have g0 := HZS.out; omega)
     simp only [TreeK.qs]
     repeat (first | (refine treek_q rfl rfl ?_; go_big_quiet_step (fail); refine wpQuiet_nil ?_) | (refine treek_e rfl rfl ?_; go_big_quiet_step (fail); refine wpQuiet_nil ?_))
     refine treek_a rfl (fun K hK => ?_)
     go_simp
     refine (HCALL.out _ (below_up HB.out HT.out) j t hjn (by rw [HMM.out]; exact htm)).mono ?_
     rintro e w2 ⟨rfl, hb9⟩
     replace HT := Lib.hid (below_up HT.out hb9)
     replace HZS := sz HZS (show wr.heap.size ≤ w2.heap.size from HT.out.size)
     clear hb9
     refine hK _ _ ⟨fun _ => ⟨⟨w2, ((below_grown HT.out).but _)⟩, rfl⟩, ?_⟩
     clear hK K
     repeat (first | (refine treek_q rfl rfl ?_; go_big_quiet_step (fail); refine wpQuiet_nil ?_) | (refine treek_e rfl rfl ?_; go_big_quiet_step (fail); refine wpQuiet_nil ?_))
     refine treek_a rfl (fun K hK => ?_)
     go_simp
     refine (gText_any G OK.out gb (val j t) _ (HG.out.up HT.out)).mono ?_
     rintro e w3 ⟨rfl, hb9⟩
     replace HT := Lib.hid (below_up HT.out hb9)
     replace HZS := sz HZS (show wr.heap.size ≤ w3.heap.size from HT.out.size)
     clear hb9
     refine hK _ _ ⟨fun _ => ⟨⟨w3, ((below_grown HT.out).but _)⟩, rfl⟩, ?_⟩
     clear hK K
     repeat (first | (refine treek_q rfl rfl ?_; go_big_quiet_step (fail); refine wpQuiet_nil ?_) | (refine treek_e rfl rfl ?_; go_big_quiet_step (fail); refine wpQuiet_nil ?_))
     clear hoc hob hov_bs hl_bs hov_w1_heap_size
     refine treek_a rfl (fun K hK => ?_)
     go_simp
     refine hK _ _ ⟨fun _ => ⟨⟨_, (below_grown (HT.out.alloc HT.out.size _)).but _⟩, rfl⟩, ?_⟩
     clear hK K
     obtain ⟨i9, hi9, hz90, hz91, hz92⟩ := info_parts infoStr
     have HG1 := Lib.hid ((below_grown HT.out).but (Value.ownBlock (.slice g t c9)))
     clear bs_
     replace Hbs := Lib.hid (Hbs.out.up HT.out)
     replace Hob := Lib.hid (Hob.out.up HT.out)
     replace HG := Lib.hid (HG.out.up HT.out)
     replace Hr := Lib.hid (Hr.out.up HT.out)
     replace HK2 := Lib.hid (Kept.up HK2.out HT.out)
     replace HB := hbu HB HT.out
     replace HZS := sz HZS HT.out.size
     refine treek_a rfl (fun K hK => ?_)
     refine step_pushF (wo.heap.size) w3 (by have g0 := HZS.out; omega) rfl _ _ 23 rfl 9 i9 _ 1 16 Tryz.underlying23 hi9 hz90 hz91 hz92 rfl (by omega) ((.slice g t c9)) (t) (((eachL G val j t).map Value.string)) rfl Hr.out _ _ _ rfl rfl rfl (by simp [Value.oneCell']) (by omega) (by unfold maxLen; omega) ?_
     intro g4 c4 w4 hown9 hg9 hf9
     have HF9 := Lib.hid hf9
     clear hf9
     have HGR := Lib.hid (HG1.out.trans hg9)
     have hb9 := Below.grown HB.out hg9 (by have g0 := HZS.out; omega) (fun q hq => Nat.le_trans (show w.heap.size ≤ wo.heap.size by have g0 := HZS.out; omega) (Hr.out.lt q hq).1)
     replace Hbs := Lib.hid (Hbs.out.grown hg9 (fun e9 => by have a1 := Hr.out.lt _ e9; have g0 := HZS.out; omega))
     replace Hob := Lib.hid (Hob.out.grown hg9 (fun e9 => by have a1 := Hr.out.lt _ e9; have g0 := HZS.out; omega))
     replace HG := Lib.hid (HG.out.grown hg9 (fun e9 => by have a1 := Hr.out.lt _ e9; have g0 := HZS.out; omega))
     replace HK2 := Lib.hid (Kept.grown HK2.out hg9 (fun q hq => Or.inl (Nat.le_trans (show wo.heap.size ≤ wo.heap.size by have g0 := HZS.out; omega) (Hr.out.lt q hq).1)))
     replace HZS := sz HZS hg9.size
     clear Hr HB HT HG1
     have Hr := Lib.hid hown9
     have HB := Lib.hid hb9
     clear hb9 hown9 hg9 hi9 hz90 hz91 hz92
     refine hK _ _ ⟨fun _ => ⟨⟨w4, HGR.out⟩, rfl⟩, ?_⟩
     clear hK K HGR
     try simp only [Act.put, List.setIfInBounds_toArray, List.set_cons_succ, List.set_cons_zero]
     repeat (first | (refine treek_q rfl rfl ?_; go_big_quiet_step (fail); refine wpQuiet_nil ?_) | (refine treek_e rfl rfl ?_; go_big_quiet_step (fail); refine wpQuiet_nil ?_))
     replace HZS := sz HZS (Hr.out.lt g4 rfl).1
     have hoc := Hob.out.cell (mid_get (v := .slice g t c9) (ys := List.replicate (n - j - 1) (.slice none 0 0)) (show (ro.flatMap RowA.cells).length = j by rw [rows_len, HRL.out]))
     have bs_ := Hbs.out.c2
     have f5_ob := Hob.out.frozen
     have o5_bs_ := bs_; clear bs_
     obtain ⟨w5, hq5, hg9, hz9, hx9⟩ := put1 Hob j (.slice (some ⟨g4, 0, none⟩) (t + 1) c4) _ rfl
     replace Hbs := Lib.hid (Hbs.out.grown hg9.out (sne (by have g0 := HZS.out; omega)))
     replace HG := Lib.hid (HG.out.grown hg9.out (sne (by have g0 := HZS.out; omega)))
     replace Hr := Lib.hid (RowO.grown Hr.out hg9.out (fun q9 e8 e9 => by have a1 := Hr.out.lt _ e8; have a0 := Option.some.inj e9; have g0 := HZS.out; omega))
     replace HK2 := Lib.hid (Kept.grown HK2.out hg9.out (fun q9 e9 => by obtain rfl := Option.some.inj e9; exact Or.inr (rfl)))
     replace HB := hbg HB hg9 (by have g0 := HZS.out; omega)
     replace HZS := sz HZS hz9.out
     replace Hob := hx9
     clear hx9 hg9 hz9
     have bs_ := Hbs.out.c2
     refine treek_a rfl (fun K hK => ?_)
     go_simp
     try rw [hq5]
     refine hK _ _ ⟨fun h9 => absurd rfl h9, ?_⟩
     clear hK K hq5 o5_bs_ f5_ob hoc
     refine treek_end ?_
     go_wp2_with fail
     go_roundw
     case rel => exact ⟨t + 1, _, _, by omega, by go_num, HK2, Lib.hid (by have h9 := Hob.out; rwa [mid_set (by rw [rows_len, HRL.out])] at h9), Hr.out.eq (eachL_snoc G val j t).symm rfl⟩
     case measure => simp [intOf]; omega
    ·have htm' : t = m := by omega
     subst htm'
     have HROW := Lib.hid (show RowsNew wm.heap.size wr (ro ++ [⟨g, c9, eachL G val j t⟩]) from fun x hx => by
      rcases List.mem_append.1 hx with hx | hx
      ·exact (HRN.out.kept HK2.out (by have a0 := HZM.out; omega)) x hx
      ·obtain rfl := List.mem_singleton.1 hx
       exact ⟨Hr.out.sl, fun y hy => Nat.le_trans (by have a1 := HZS.out; omega) (RowO.own_le Hr.out hy), RowO.rowOk Hr.out⟩)
     go_wp2_with fail
     go_roundw
     case rel => exact ⟨j + 1, ro ++ [⟨g, c9, eachL G val j t⟩], by omega, by go_num, Lib.hid (by rw [List.length_append, HRL.out]; rfl), Lib.hid (by rw [List.map_append, HRM.out, eachA_snoc, HMM.out]; rfl), Lib.hid (HK.out.trans HK2.out), Lib.hid (by rw [List.flatMap_append]; have h9 := Hob.out; simpa [RowA.cells, eachL_len, Nat.sub_sub] using h9), HROW⟩
     case measure => simp [intOf]; omega
  ·have hjn' : j = n := by omega
   subst hjn'
   have hsl : Sl wr wr.heap.size (some ⟨w1.heap.size, 0, none⟩) (ro.flatMap RowA.cells) := by
    have h9 := Hob.out
    rw [Nat.sub_self, List.replicate_zero, List.append_nil] at h9
    simpa using Sl.of_block h9
   have HSL := Lib.hid hsl
   clear hsl
   go_wp2_with fail
   go_ret
   exact ⟨HB.out, _, j, ro, by rw [eachA_len]; rfl, HRM.out, ⟨HSL.out, fun r hr => (HRN.out r hr).1⟩, fun r hr => (HRN.out r hr).2.2, fun x hx => by cases hx; show w.heap.size ≤ w1.heap.size; have a0 := HZ9.out; omega, fun r hr x hx => Nat.le_trans (show w.heap.size ≤ wm.heap.size by have a0 := HZ9.out; have a1 := HZM.out; omega) ((HRN.out r hr).2.1 x hx)⟩
end Go.Proofs.YtdlnnkbigeiilaaGreat
namespace Go.Proofs.YtdlnnkbigeiilaaGreat
open Go.RowKit
theorem cell_up {W w1 : World} {n b o : Nat} {v : Value} (hb : Below n W w1) (hl : b < n) (h : W.cell? ⟨b, o, none⟩ = some v) : w1.cell? ⟨b, o, none⟩ = some v := (hb.cell (p := ⟨b, o, none⟩) hl).trans h
theorem first1_any (G : GP) (ok : G.Ok) (gb b1 b2 : Nat) (rs : List ClaimR) (n : Nat) (a : Option Addr) (c : Nat) (xs : List ByteArray) (ax : Option Addr) (cx i t : Nat) (hi : i < rs.length) (hix : i < xs.length) (ht : t < rs[i].k.bases.length) (w : World) (hG : GroupAt w gb G) (hS : SetAt G w a rs) (hX : Sl w w.heap.size ax (xs.flatMap (limC G.q.m)))
  (hrs : rs.length = n) (hxs : xs.length = n) (h1 : Bx w b1 64 [.pointer (some ⟨gb, 0, none⟩), .slice a n c]) (h2 : Bx w b2 65 [.slice ax n cx]) :
  Calls Tryz.prog 121 #[.int .i64 (i : Int), .int .i64 (t : Int), .pointer (some ⟨b1, 0, none⟩), .pointer (some ⟨b2, 0, none⟩)] w (Gives (elV G (numOf rs[i].k.bases[t] ^ (numOf xs[i] % G.q.m))) w) := by
 have HG := Lib.hid hG
 have HGB := Lib.hid hG.lt
 have OK := Lib.hid ok
 have HL1 := Lib.hid h1.lt
 have HL2 := Lib.hid h2.lt
 obtain ⟨ba, oa, rfl, hba0⟩ := hS.at i hi
 obtain ⟨bx, ox, rfl, hbx0⟩ := hX.adr (flat_ne (limC_len _) (by omega) (List.length_pos_iff.1 (by omega)))
 have hca := hS.cells (Below.refl _ _) i hi
 have hcx := (hX.elemS (limC_len _) (by omega) i hix).2
 have hAT := hS.e _ (List.getElem_mem hi)
 have hcb := (hAT.b.elemS (limC_len _) (by omega) t ht).2
 have HBB := Lib.hid hAT.bl
 have HBA := Lib.hid hba0
 have HBX := Lib.hid hbx0
 have hin : i < n := by omega
 have h11 := h1.cell (i := 0) rfl
 have h12 := h1.cell (i := 1) rfl
 have h21 := h2.cell (i := 0) rfl
 generalize xs[i] = x at *
 generalize rs[i] = r at *
 obtain ⟨m, hm⟩ : ∃ m, r.k.bases.length = m := ⟨_, rfl⟩
 have htm : t < m := by omega
 generalize r.k.bases[t] = bb at *
 have hca_0 := hca 0 _ rfl
 rw [Nat.add_zero] at hca_0
 have hca_1 := hca 1 _ rfl
 have hca_2 := hca 2 _ rfl
 clear hca
 have hcx_0 := hcx 0 _ rfl
 rw [Nat.add_zero] at hcx_0
 have hcx_1 := hcx 1 _ rfl
 have hcx_2 := hcx 2 _ rfl
 have hcx_3 := hcx 3 _ rfl
 clear hcx
 have hcb_0 := hcb 0 _ rfl
 rw [Nat.add_zero] at hcb_0
 have hcb_1 := hcb 1 _ rfl
 have hcb_2 := hcb 2 _ rfl
 have hcb_3 := hcb 3 _ rfl
 clear hcb
 rw [hm] at hca_1
 clear hAT hS hX hG ok h1 h2 hi hix ht hrs hxs hm
 unfold Gives elV limbV
 go_enter Tryz.func121, Tryz.ntmps121
 go_wp2_with fail
 have HZS := HGB
 replace HZS := sz HZS HL1.out
 replace HZS := sz HZS HL2.out
 replace HZS := sz HZS HBB.out
 replace HZS := sz HZS HBA.out
 replace HZS := sz HZS HBX.out
 have BW := Lib.hid (Below.refl w.heap.size w)
 obtain ⟨w1, hq1, hb9, hz9, Hbr⟩ := new1 w 127 [.int .u64 0, .int .u64 0, .int .u64 0, .int .u64 0]
 rw [hq1]
 clear hq1
 replace HG := Lib.hid (HG.out.up hb9)
 replace BW := hbu BW hb9
 have HB := Lib.hid hb9
 replace HZS := sz HZS hz9.out
 clear hb9 hz9
 have br_ := Hbr.out.c4
 replace h11 := cell_up BW.out HL1.out h11
 replace h12 := cell_up BW.out HL1.out h12
 replace h21 := cell_up BW.out HL2.out h21
 replace hca_0 := cell_up BW.out HBA.out hca_0
 replace hca_1 := cell_up BW.out HBA.out hca_1
 replace hca_2 := cell_up BW.out HBA.out hca_2
 replace hcx_0 := cell_up BW.out HBX.out hcx_0
 replace hcx_1 := cell_up BW.out HBX.out hcx_1
 replace hcx_2 := cell_up BW.out HBX.out hcx_2
 replace hcx_3 := cell_up BW.out HBX.out hcx_3
 replace hcb_0 := cell_up BW.out HBB.out hcb_0
 replace hcb_1 := cell_up BW.out HBB.out hcb_1
 replace hcb_2 := cell_up BW.out HBB.out hcb_2
 replace hcb_3 := cell_up BW.out HBB.out hcb_3
 have hl1 := Nat.lt_of_lt_of_le HL1.out BW.out.size
 have hl2 := Nat.lt_of_lt_of_le HL2.out BW.out.size
 have hba1 := Nat.lt_of_lt_of_le HBA.out BW.out.size
 have hbx1 := Nat.lt_of_lt_of_le HBX.out BW.out.size
 have hbb1 := Nat.lt_of_lt_of_le HBB.out BW.out.size
 clear hba0 hbx0
 have HT := Lib.hid (show Below w1.heap.size w1 w1.drew from (Below.refl _ _).drew)
 refine wp_region_tree (fun wq9 => ∃ E : But w1 (some (w.heap.size)), wq9 = E.w) ((.qs [0, 1, 2, 3, 4, 5, 6, 7, 8, 9, 10, 11, 12, 13, 14] (.a 15 (.a 16 .done)))) (by kernel_rfl) (by kernel_rfl) (fun _ _ d _ _ h => by cases d <;> exact h) ⟨⟨_, ((below_grown HT.out).but _)⟩, rfl⟩ ?_
 have hov_b1 := fun (E : But w1 (some (w.heap.size))) o => E.cell (b := b1) o hl1 (by intro e9; have a0 := Option.some.inj e9; have g0 := HZS.out; omega)
 have hov_b2 := fun (E : But w1 (some (w.heap.size))) o => E.cell (b := b2) o hl2 (by intro e9; have a0 := Option.some.inj e9; have g0 := HZS.out; omega)
 have hov_ba := fun (E : But w1 (some (w.heap.size))) o => E.cell (b := ba) o hba1 (by intro e9; have a0 := Option.some.inj e9; have g0 := HZS.out; omega)
 have hov_bx := fun (E : But w1 (some (w.heap.size))) o => E.cell (b := bx) o hbx1 (by intro e9; have a0 := Option.some.inj e9; have g0 := HZS.out; omega)
 have hov_r_bb := fun (E : But w1 (some (w.heap.size))) o => E.cell (b := r.bb) o hbb1 (by intro e9; have a0 := Option.some.inj e9; have g0 := HZS.out; omega)
 simp only [Tree.qs]
 repeat (refine tree_q rfl rfl ?_; go_big_quiet_step (fail); refine wpQuiet_nil ?_)
 refine tree_a rfl (fun K hK => ?_)
 go_simp
 refine (gPower_any G OK.out gb (numOf bb) (numOf x) _ (HG.out.up HT.out)).mono ?_
 rintro e w2 ⟨rfl, hb9⟩
 replace HT := Lib.hid (below_up HT.out hb9)
 replace HZS := sz HZS (show w1.heap.size ≤ w2.heap.size from HT.out.size)
 clear hb9
 unfold elV limbV
 refine hK _ _ ⟨⟨⟨w2, ((below_grown HT.out).but _)⟩, rfl⟩, ?_⟩
 clear hK K
 repeat (refine tree_q rfl rfl ?_; go_big_quiet_step (fail); refine wpQuiet_nil ?_)
 clear h11 h12 h21 hca_0 hca_1 hca_2 hcx_0 hcx_1 hcx_2 hcx_3 hcb_0 hcb_1 hcb_2 hcb_3 hov_b1 hov_b2 hov_ba hov_bx hov_r_bb
 refine tree_a rfl (fun K hK => ?_)
 clear br_
 replace Hbr := Lib.hid (Hbr.out.up HT.out)
 replace HG := Lib.hid (HG.out.up HT.out)
 replace HB := hbu HB HT.out
 replace HZS := sz HZS HT.out.size
 have br_ := Hbr.out.c4
 have f3_br := Hbr.out.frozen
 have o3_br_ := br_; clear br_
 obtain ⟨w3, hq3, hg9, hz9, hx9⟩ := put4 Hbr 0 (.int .u64 (dig (mont G.p.m (numOf bb ^ (numOf x % G.q.m))) 0 : Int)) 1 (.int .u64 (dig (mont G.p.m (numOf bb ^ (numOf x % G.q.m))) 1 : Int)) 2 (.int .u64 (dig (mont G.p.m (numOf bb ^ (numOf x % G.q.m))) 2 : Int)) 3 (.int .u64 (dig (mont G.p.m (numOf bb ^ (numOf x % G.q.m))) 3 : Int)) [.int .u64 (dig (mont G.p.m (numOf bb ^ (numOf x % G.q.m))) 0 : Int), .int .u64 (dig (mont G.p.m (numOf bb ^ (numOf x % G.q.m))) 1 : Int), .int .u64 (dig (mont G.p.m (numOf bb ^ (numOf x % G.q.m))) 2 : Int), .int .u64 (dig (mont G.p.m (numOf bb ^ (numOf x % G.q.m))) 3 : Int)] rfl
 replace HG := Lib.hid (HG.out.grown hg9.out (sne (by have g0 := HZS.out; omega)))
 replace HB := hbg HB hg9 (by have g0 := HZS.out; omega)
 replace HZS := sz HZS hz9.out
 replace Hbr := hx9
 have HGR := Lib.hid (((below_grown HT.out).but _).trans hg9.out)
 clear hx9 hg9 hz9
 have br_ := Hbr.out.c4
 clear HT
 go_simp
 try rw [hq3]
 refine hK _ _ ⟨⟨⟨w3, HGR.out⟩, rfl⟩, ?_⟩
 clear hK K HGR hq3 o3_br_ f3_br
 repeat (refine tree_q rfl rfl ?_; go_big_quiet_step (fail); refine wpQuiet_nil ?_)
 refine tree_end ?_
 go_wp2_with fail
 simp [bodyPost, results, Tryz.results121, go_sem, br_]
 exact HB.out
theorem back1_any (G : GP) (ok : G.Ok) (gb b1 b2 b3 y : Nat) (rs : List ClaimR) (n : Nat) (a : Option Addr) (c : Nat) (xs : List ByteArray) (ax : Option Addr) (cx i t : Nat) (hi : i < rs.length) (hix : i < xs.length) (ht : t < rs[i].k.bases.length) (hti : t < rs[i].k.images.length) (w : World) (hG : GroupAt w gb G) (hS : SetAt G w a rs) (hX : Sl w w.heap.size ax (xs.flatMap (limC G.q.m)))
  (hrs : rs.length = n) (hxs : xs.length = n) (h1 : Bx w b1 64 [.pointer (some ⟨gb, 0, none⟩), .slice a n c]) (h2 : Bx w b2 65 [.slice ax n cx]) (h3 : Bx w b3 72 (limN G.q.m y)) :
  Calls Tryz.prog 101 #[.int .i64 (i : Int), .int .i64 (t : Int), .pointer (some ⟨b1, 0, none⟩), .pointer (some ⟨b2, 0, none⟩), .pointer (some ⟨b3, 0, none⟩)] w (Gives (elV G (numOf rs[i].k.bases[t] ^ (numOf xs[i] % G.q.m) * numOf rs[i].k.images[t] ^ (y % G.q.m))) w) := by
 have HG := Lib.hid hG
 have HGB := Lib.hid hG.lt
 have OK := Lib.hid ok
 have HL1 := Lib.hid h1.lt
 have HL2 := Lib.hid h2.lt
 obtain ⟨ba, oa, rfl, hba0⟩ := hS.at i hi
 obtain ⟨bx, ox, rfl, hbx0⟩ := hX.adr (flat_ne (limC_len _) (by omega) (List.length_pos_iff.1 (by omega)))
 have hca := hS.cells (Below.refl _ _) i hi
 have hcx := (hX.elemS (limC_len _) (by omega) i hix).2
 have hAT := hS.e _ (List.getElem_mem hi)
 have hcb := (hAT.b.elemS (limC_len _) (by omega) t ht).2
 have HBB := Lib.hid hAT.bl
 have HBA := Lib.hid hba0
 have HBX := Lib.hid hbx0
 have HL3 := Lib.hid h3.lt
 have hci := (hAT.i.elemS (limC_len _) (by omega) t hti).2
 have HBI := Lib.hid hAT.il
 have hin : i < n := by omega
 have h11 := h1.cell (i := 0) rfl
 have h12 := h1.cell (i := 1) rfl
 have h21 := h2.cell (i := 0) rfl
 have h30 := h3.cell (i := 0) rfl
 have h31 := h3.cell (i := 1) rfl
 have h32 := h3.cell (i := 2) rfl
 have h33 := h3.cell (i := 3) rfl
 generalize xs[i] = x at *
 generalize rs[i] = r at *
 obtain ⟨m, hm⟩ : ∃ m, r.k.bases.length = m := ⟨_, rfl⟩
 obtain ⟨m2, hm2⟩ : ∃ m, r.k.images.length = m := ⟨_, rfl⟩
 have htm : t < m := by omega
 have htm2 : t < m2 := by omega
 generalize r.k.bases[t] = bb at *
 generalize r.k.images[t] = mm at *
 have hca_0 := hca 0 _ rfl
 rw [Nat.add_zero] at hca_0
 have hca_1 := hca 1 _ rfl
 have hca_2 := hca 2 _ rfl
 clear hca
 have hcx_0 := hcx 0 _ rfl
 rw [Nat.add_zero] at hcx_0
 have hcx_1 := hcx 1 _ rfl
 have hcx_2 := hcx 2 _ rfl
 have hcx_3 := hcx 3 _ rfl
 clear hcx
 have hcb_0 := hcb 0 _ rfl
 rw [Nat.add_zero] at hcb_0
 have hcb_1 := hcb 1 _ rfl
 have hcb_2 := hcb 2 _ rfl
 have hcb_3 := hcb 3 _ rfl
 clear hcb
 have hci_0 := hci 0 _ rfl
 rw [Nat.add_zero] at hci_0
 have hci_1 := hci 1 _ rfl
 have hci_2 := hci 2 _ rfl
 have hci_3 := hci 3 _ rfl
 clear hci
 rw [hm] at hca_1
 rw [hm2] at hca_2
 clear hAT hS hX hG ok h1 h2 h3 hi hix ht hti hrs hxs hm hm2
 unfold Gives elV limbV
 go_enter Tryz.func101, Tryz.ntmps101
 go_wp2_with fail
 have HZS := HGB
 replace HZS := sz HZS HL1.out
 replace HZS := sz HZS HL2.out
 replace HZS := sz HZS HL3.out
 replace HZS := sz HZS HBB.out
 replace HZS := sz HZS HBA.out
 replace HZS := sz HZS HBX.out
 replace HZS := sz HZS HBI.out
 have BW := Lib.hid (Below.refl w.heap.size w)
 obtain ⟨w1, hq1, hb9, hz9, Hbr⟩ := new1 w 127 [.int .u64 0, .int .u64 0, .int .u64 0, .int .u64 0]
 rw [hq1]
 clear hq1
 replace HG := Lib.hid (HG.out.up hb9)
 replace BW := hbu BW hb9
 have HB := Lib.hid hb9
 replace HZS := sz HZS hz9.out
 clear hb9 hz9
 have br_ := Hbr.out.c4
 replace h11 := cell_up BW.out HL1.out h11
 replace h12 := cell_up BW.out HL1.out h12
 replace h21 := cell_up BW.out HL2.out h21
 replace hca_0 := cell_up BW.out HBA.out hca_0
 replace hca_1 := cell_up BW.out HBA.out hca_1
 replace hca_2 := cell_up BW.out HBA.out hca_2
 replace hcx_0 := cell_up BW.out HBX.out hcx_0
 replace hcx_1 := cell_up BW.out HBX.out hcx_1
 replace hcx_2 := cell_up BW.out HBX.out hcx_2
 replace hcx_3 := cell_up BW.out HBX.out hcx_3
 replace hcb_0 := cell_up BW.out HBB.out hcb_0
 replace hcb_1 := cell_up BW.out HBB.out hcb_1
 replace hcb_2 := cell_up BW.out HBB.out hcb_2
 replace hcb_3 := cell_up BW.out HBB.out hcb_3
 have hl1 := Nat.lt_of_lt_of_le HL1.out BW.out.size
 have hl2 := Nat.lt_of_lt_of_le HL2.out BW.out.size
 have hba1 := Nat.lt_of_lt_of_le HBA.out BW.out.size
 have hbx1 := Nat.lt_of_lt_of_le HBX.out BW.out.size
 have hbb1 := Nat.lt_of_lt_of_le HBB.out BW.out.size
 clear hba0 hbx0
 replace h30 := cell_up BW.out HL3.out h30
 replace h31 := cell_up BW.out HL3.out h31
 replace h32 := cell_up BW.out HL3.out h32
 replace h33 := cell_up BW.out HL3.out h33
 replace hci_0 := cell_up BW.out HBI.out hci_0
 replace hci_1 := cell_up BW.out HBI.out hci_1
 replace hci_2 := cell_up BW.out HBI.out hci_2
 replace hci_3 := cell_up BW.out HBI.out hci_3
 have hl3 := Nat.lt_of_lt_of_le HL3.out BW.out.size
 have hbi1 := Nat.lt_of_lt_of_le HBI.out BW.out.size
 have HT := Lib.hid (show Below w1.heap.size w1 w1.drew from (Below.refl _ _).drew)
 refine wp_region_tree (fun wq9 => ∃ E : But w1 (some (w.heap.size)), wq9 = E.w) ((.qs [0, 1, 2, 3, 4, 5, 6, 7, 8, 9, 10, 11, 12, 13, 14, 15, 16, 18, 19, 20, 21, 22, 23, 24, 25, 26, 27, 28, 29] (.a 17 (.a 30 (.a 31 (.a 32 .done)))))) (by kernel_rfl) (by kernel_rfl) (fun _ _ d _ _ h => by cases d <;> exact h) ⟨⟨_, ((below_grown HT.out).but _)⟩, rfl⟩ ?_
 have hov_b1 := fun (E : But w1 (some (w.heap.size))) o => E.cell (b := b1) o hl1 (by intro e9; have a0 := Option.some.inj e9; have g0 := HZS.out; omega)
 have hov_b2 := fun (E : But w1 (some (w.heap.size))) o => E.cell (b := b2) o hl2 (by intro e9; have a0 := Option.some.inj e9; have g0 := HZS.out; omega)
 have hov_b3 := fun (E : But w1 (some (w.heap.size))) o => E.cell (b := b3) o hl3 (by intro e9; have a0 := Option.some.inj e9; have g0 := HZS.out; omega)
 have hov_ba := fun (E : But w1 (some (w.heap.size))) o => E.cell (b := ba) o hba1 (by intro e9; have a0 := Option.some.inj e9; have g0 := HZS.out; omega)
 have hov_bx := fun (E : But w1 (some (w.heap.size))) o => E.cell (b := bx) o hbx1 (by intro e9; have a0 := Option.some.inj e9; have g0 := HZS.out; omega)
 have hov_r_bb := fun (E : But w1 (some (w.heap.size))) o => E.cell (b := r.bb) o hbb1 (by intro e9; have a0 := Option.some.inj e9; have g0 := HZS.out; omega)
 have hov_r_ib := fun (E : But w1 (some (w.heap.size))) o => E.cell (b := r.ib) o hbi1 (by intro e9; have a0 := Option.some.inj e9; have g0 := HZS.out; omega)
 simp only [Tree.qs]
 repeat (refine tree_q rfl rfl ?_; go_big_quiet_step (fail); refine wpQuiet_nil ?_)
 refine tree_a rfl (fun K hK => ?_)
 go_simp
 refine (gPower_any G OK.out gb (numOf bb) (numOf x) _ (HG.out.up HT.out)).mono ?_
 rintro e w2 ⟨rfl, hb9⟩
 replace HT := Lib.hid (below_up HT.out hb9)
 replace HZS := sz HZS (show w1.heap.size ≤ w2.heap.size from HT.out.size)
 clear hb9
 refine hK _ _ ⟨⟨⟨w2, ((below_grown HT.out).but _)⟩, rfl⟩, ?_⟩
 clear hK K
 repeat (refine tree_q rfl rfl ?_; go_big_quiet_step (fail); refine wpQuiet_nil ?_)
 refine tree_a rfl (fun K hK => ?_)
 go_simp
 refine (gPower_any G OK.out gb (numOf mm) y _ (HG.out.up HT.out)).mono ?_
 rintro e w3 ⟨rfl, hb9⟩
 replace HT := Lib.hid (below_up HT.out hb9)
 replace HZS := sz HZS (show w1.heap.size ≤ w3.heap.size from HT.out.size)
 clear hb9
 refine hK _ _ ⟨⟨⟨w3, ((below_grown HT.out).but _)⟩, rfl⟩, ?_⟩
 clear hK K
 repeat (refine tree_q rfl rfl ?_; go_big_quiet_step (fail); refine wpQuiet_nil ?_)
 refine tree_a rfl (fun K hK => ?_)
 go_simp
 refine (gTimes_any G OK.out gb (numOf bb ^ (numOf x % G.q.m)) (numOf mm ^ (y % G.q.m)) _ (HG.out.up HT.out)).mono ?_
 rintro e w4 ⟨rfl, hb9⟩
 replace HT := Lib.hid (below_up HT.out hb9)
 replace HZS := sz HZS (show w1.heap.size ≤ w4.heap.size from HT.out.size)
 clear hb9
 unfold elV limbV
 refine hK _ _ ⟨⟨⟨w4, ((below_grown HT.out).but _)⟩, rfl⟩, ?_⟩
 clear hK K
 repeat (refine tree_q rfl rfl ?_; go_big_quiet_step (fail); refine wpQuiet_nil ?_)
 clear h11 h12 h21 h30 h31 h32 h33 hca_0 hca_1 hca_2 hcx_0 hcx_1 hcx_2 hcx_3 hcb_0 hcb_1 hcb_2 hcb_3 hci_0 hci_1 hci_2 hci_3 hov_b1 hov_b2 hov_b3 hov_ba hov_bx hov_r_bb hov_r_ib
 refine tree_a rfl (fun K hK => ?_)
 clear br_
 replace Hbr := Lib.hid (Hbr.out.up HT.out)
 replace HG := Lib.hid (HG.out.up HT.out)
 replace HB := hbu HB HT.out
 replace HZS := sz HZS HT.out.size
 have br_ := Hbr.out.c4
 have f5_br := Hbr.out.frozen
 have o5_br_ := br_; clear br_
 obtain ⟨w5, hq5, hg9, hz9, hx9⟩ := put4 Hbr 0 (.int .u64 (dig (mont G.p.m (numOf bb ^ (numOf x % G.q.m) * numOf mm ^ (y % G.q.m))) 0 : Int)) 1 (.int .u64 (dig (mont G.p.m (numOf bb ^ (numOf x % G.q.m) * numOf mm ^ (y % G.q.m))) 1 : Int)) 2 (.int .u64 (dig (mont G.p.m (numOf bb ^ (numOf x % G.q.m) * numOf mm ^ (y % G.q.m))) 2 : Int)) 3 (.int .u64 (dig (mont G.p.m (numOf bb ^ (numOf x % G.q.m) * numOf mm ^ (y % G.q.m))) 3 : Int)) [.int .u64 (dig (mont G.p.m (numOf bb ^ (numOf x % G.q.m) * numOf mm ^ (y % G.q.m))) 0 : Int), .int .u64 (dig (mont G.p.m (numOf bb ^ (numOf x % G.q.m) * numOf mm ^ (y % G.q.m))) 1 : Int), .int .u64 (dig (mont G.p.m (numOf bb ^ (numOf x % G.q.m) * numOf mm ^ (y % G.q.m))) 2 : Int), .int .u64 (dig (mont G.p.m (numOf bb ^ (numOf x % G.q.m) * numOf mm ^ (y % G.q.m))) 3 : Int)] rfl
 replace HG := Lib.hid (HG.out.grown hg9.out (sne (by have g0 := HZS.out; omega)))
 replace HB := hbg HB hg9 (by have g0 := HZS.out; omega)
 replace HZS := sz HZS hz9.out
 replace Hbr := hx9
 have HGR := Lib.hid (((below_grown HT.out).but _).trans hg9.out)
 clear hx9 hg9 hz9
 have br_ := Hbr.out.c4
 clear HT
 go_simp
 try rw [hq5]
 refine hK _ _ ⟨⟨⟨w5, HGR.out⟩, rfl⟩, ?_⟩
 clear hK K HGR hq5 o5_br_ f5_br
 repeat (refine tree_q rfl rfl ?_; go_big_quiet_step (fail); refine wpQuiet_nil ?_)
 refine tree_end ?_
 go_wp2_with fail
 simp [bodyPost, results, Tryz.results101, go_sem, br_]
 exact HB.out
end Go.Proofs.YtdlnnkbigeiilaaGreat
namespace Go.Proofs.YtdlnnkbigeiilaaGreat
open Go.RowKit
def hold2 (G : GP) (x : ByteArray) (b m : ByteArray) : Bool := decide (lowN G (numOf b ^ (numOf x % G.q.m)) = lowN G (numOf m))
def hold1 (G : GP) (k : ClaimA) (x : ByteArray) : Bool := (List.zipWith (hold2 G x) k.bases k.images).all id
def holdP (G : GP) (l : List ClaimA) (xs : List ByteArray) : Bool := (List.zipWith (hold1 G) l xs).all id
theorem gSame_b (G : GP) (ok : G.Ok) (gb x y : Nat) (b : Bool) (hb : decide (lowN G x = lowN G y) = b) (w : World) (hG : GroupAt w gb G) :
  Calls Tryz.prog 119 #[.pointer (some ⟨gb, 0, none⟩), elV G x, elV G y] w (Gives (.bool b) w) := by
 subst hb
 exact gSame_any G ok gb x y w hG
theorem zalls_snoc {α β : Type} {f : α → β → Bool} {l : List α} {m : List β} {j : Nat} (hl : j < l.length) (hm : j < m.length) (h : ((List.zipWith f l m).take j).all id = true) (h1 : f l[j] m[j] = true) : ((List.zipWith f l m).take (j + 1)).all id = true := by
 rw [List.take_succ_eq_append_getElem (by rw [List.length_zipWith]; omega), List.all_append, h, List.getElem_zipWith, h1]
 rfl
theorem zalls_not {α β : Type} {f : α → β → Bool} {l : List α} {m : List β} {j : Nat} (hl : j < l.length) (hm : j < m.length) (h1 : f l[j] m[j] = false) : (List.zipWith f l m).all id = false := by
 rw [List.all_eq_false]
 exact ⟨(List.zipWith f l m)[j]'(by rw [List.length_zipWith]; omega), List.getElem_mem _, by rw [List.getElem_zipWith]; simp [h1]⟩
theorem zalls_end {α β : Type} {f : α → β → Bool} {l : List α} {m : List β} {n : Nat} (hl : l.length = n) (h : ((List.zipWith f l m).take n).all id = true) : (List.zipWith f l m).all id = true := by
 rwa [List.take_of_length_le (by rw [List.length_zipWith]; omega)] at h
theorem holds_any (G : GP) (ok : G.Ok) (gb : Nat) (rs : List ClaimR) (n : Nat) (hrs : rs.length = n) (a : Option Addr) (c : Nat) (xs : List ByteArray) (hxs : xs.length = n) (ax : Option Addr) (cx : Nat) (hn : n ≤ 64) (hsh : ∀ r ∈ rs, r.k.bases.length ≤ 8 ∧ r.k.images.length = r.k.bases.length) (b : Bool) (hb : holdP G (rs.map ClaimR.k) xs = b) (w : World) (hG : GroupAt w gb G) (hS : SetAt G w a rs) (hX : Sl w w.heap.size ax (xs.flatMap (limC G.q.m))) :
  Calls Tryz.prog 64 #[.agg #[.pointer (some ⟨gb, 0, none⟩), .slice a n c], .slice ax n cx] w (Gives (.bool b) w) := by
 have HRS := Lib.hid hrs
 have HXS := Lib.hid hxs
 have HSH := Lib.hid hsh
 have HBB := Lib.hid hb
 have HG := Lib.hid hG
 have OK := Lib.hid ok
 have HS := Lib.hid hS
 have HX := Lib.hid hX
 clear hrs hxs hsh hb hG ok hS hX
 unfold Gives
 go_enter Tryz.func64, Tryz.ntmps64
 go_wp2_with fail
 obtain ⟨w1, hq1, hb9, hz9, Hbs⟩ := new1 w 64 [.pointer (some ⟨gb, 0, none⟩), .slice a n c]
 rw [hq1]
 clear hq1
 replace HG := Lib.hid (HG.out.up hb9)
 have HB := Lib.hid hb9
 have HZS := hz9
 clear hb9 hz9
 have bs_ := Hbs.out.c2
 have BL := Lib.hid (Below.refl w1.heap.size w1)
 go_wp2_with fail
 go_loopw [12] (fun i wr => ∃ j : Nat, j ≤ n ∧ i = .int .i64 j ∧ Hid (Below w1.heap.size w1 wr) ∧ Hid (((List.zipWith (hold1 G) (rs.map ClaimR.k) xs).take j).all id = true)) (fun i _ => n - (intOf i).toNat)
 case atStart => exact ⟨0, Nat.zero_le _, rfl, BL, rfl⟩
 case round =>
  obtain ⟨j, hj, rfl, HL9, HAL⟩ := hrel
  have hb9 := HL9.out
  clear HL9 bs_
  replace Hbs := Lib.hid (Hbs.out.up hb9)
  replace HG := Lib.hid (HG.out.up hb9)
  replace BL := hbu BL hb9
  replace HB := hbu HB hb9
  replace HZS := sz HZS hb9.size
  clear hb9
  have bs_ := Hbs.out.c2
  by_cases hjn : j < n
  ·have hjr : j < rs.length := by rw [HRS.out]; exact hjn
   have hjx : j < xs.length := by rw [HXS.out]; exact hjn
   obtain ⟨ba, oa, rfl, hba⟩ := HS.out.at j hjr
   obtain ⟨bx, ox, rfl, hbx0⟩ := HX.out.adr (flat_ne (limC_len _) (by omega) (List.length_pos_iff.1 (by omega)))
   have HSA := Lib.hid (HS.out.up HB.out)
   have hcx := ((HX.out.up HB.out).elemS (limC_len _) (by omega) j hjx).2
   have hca := HSA.out.cells (Below.refl _ _) j hjr
   have HAT := Lib.hid (HSA.out.e _ (List.getElem_mem hjr))
   have HSJ := Lib.hid (HSH.out _ (List.getElem_mem hjr))
   have HSN := Lib.hid (zalls_snoc (f := hold1 G) (l := rs.map ClaimR.k) (m := xs) (by simpa using hjr) hjx HAL.out)
   have HNO := Lib.hid (zalls_not (f := hold1 G) (l := rs.map ClaimR.k) (m := xs) (by simpa using hjr) hjx)
   rw [List.getElem_map] at HSN HNO
   have HPW := Lib.hid (fun (w1 : World) (x : Nat) (h1 : GroupAt w1 gb G) (h2 : SetAt G w1 (some ⟨ba, oa, none⟩) rs) => powers_any G OK.out gb rs (some ⟨ba, oa, none⟩) c j hjr x HSJ.out.1 w1 h1 h2)
   rw [HRS.out] at HPW
   generalize rs[j] = r at *
   generalize xs[j] = x at *
   have hca_0 := hca 0 _ rfl
   rw [Nat.add_zero] at hca_0
   have hca_1 := hca 1 _ rfl
   have hca_2 := hca 2 _ rfl
   clear hca
   have hcx_0 := hcx 0 _ rfl
   rw [Nat.add_zero] at hcx_0
   have hcx_1 := hcx 1 _ rfl
   have hcx_2 := hcx 2 _ rfl
   have hcx_3 := hcx 3 _ rfl
   clear hcx
   have hbx := Nat.lt_of_lt_of_le hbx0 HB.out.size
   have BR := Lib.hid (Below.refl wr.heap.size wr)
   have o2_bs_ := bs_; clear bs_
   obtain ⟨w2, hq2, hb9, hz9, Hbc⟩ := new1 wr 154 [.pointer (some ⟨r.pb, r.po, none⟩), .slice (some ⟨r.bb, r.bo, none⟩) r.k.bases.length r.bc, .slice (some ⟨r.ib, r.io, none⟩) r.k.images.length r.ic]
   replace Hbs := Lib.hid (Hbs.out.up hb9)
   replace HG := Lib.hid (HG.out.up hb9)
   replace BL := hbu BL hb9
   replace BR := hbu BR hb9
   replace HB := hbu HB hb9
   replace HZS := sz HZS hz9.out
   clear hb9 hz9
   have bs_ := Hbs.out.c2
   have bc_ := Hbc.out.c3
   go_wp2_with fail
   clear hq2 o2_bs_
   have hbx' := Nat.lt_of_lt_of_le hbx BR.out.size
   have hcx_0' := (BR.out.cell (p := ⟨bx, ox + j * 4, none⟩) hbx).trans hcx_0
   have hcx_1' := (BR.out.cell (p := ⟨bx, ox + j * 4 + 1, none⟩) hbx).trans hcx_1
   have hcx_2' := (BR.out.cell (p := ⟨bx, ox + j * 4 + 2, none⟩) hbx).trans hcx_2
   have hcx_3' := (BR.out.cell (p := ⟨bx, ox + j * 4 + 3, none⟩) hbx).trans hcx_3
   clear hca_0 hca_1 hca_2 hcx_0 hcx_1 hcx_2 hcx_3
   have HT := Lib.hid (show Below w2.heap.size w2 w2.drew from (Below.refl _ _).drew)
   have hl_bs := Hbs.out.lt
   have hl_bc := Hbc.out.lt
   refine wp_region_tree (fun wq9 => ∃ E : Over w2, wq9 = E.w) ((.qs [0, 1, 2, 3, 4, 5, 8] (.a 6 (.qs [7] .done)))) (by kernel_rfl) (by kernel_rfl) (fun _ _ d _ _ h => by cases d <;> exact h) ⟨⟨_, HT.out⟩, rfl⟩ ?_
   have hov_bs := fun (E : Over w2) o => E.cell (b := w.heap.size) o hl_bs
   have hov_bc := fun (E : Over w2) o => E.cell (b := wr.heap.size) o hl_bc
   have hov_bx := fun (E : Over w2) o => E.cell (b := bx) o hbx'
   simp only [Tree.qs]
   repeat (refine tree_q rfl rfl ?_; go_big_quiet_step (fail); refine wpQuiet_nil ?_)
   refine tree_a rfl (fun K hK => ?_)
   go_simp
   refine (HPW.out _ (numOf x) (HG.out.up HT.out) (HSA.out.up (below_up BR.out HT.out))).mono ?_
   rintro e w3 ⟨a9, c9, rfl, hb9, hs9⟩
   replace HT := Lib.hid (below_up HT.out hb9)
   replace HZS := sz HZS (show w2.heap.size ≤ w3.heap.size from HT.out.size)
   clear hb9
   have HP := Lib.hid hs9
   clear hs9
   refine hK _ _ ⟨⟨⟨w3, HT.out⟩, rfl⟩, ?_⟩
   clear hK K
   repeat (refine tree_q rfl rfl ?_; go_big_quiet_step (fail); refine wpQuiet_nil ?_)
   refine tree_end ?_
   clear hov_bs hl_bs hov_bc hl_bc hov_bx bs_
   replace Hbs := Lib.hid (Hbs.out.up HT.out)
   clear bc_
   replace Hbc := Lib.hid (Hbc.out.up HT.out)
   replace HG := Lib.hid (HG.out.up HT.out)
   replace BL := hbu BL HT.out
   replace BR := hbu BR HT.out
   replace HB := hbu HB HT.out
   replace HZS := sz HZS HT.out.size
   clear HT
   have bs_ := Hbs.out.c2
   have bc_ := Hbc.out.c3
   clear hcx_0' hcx_1' hcx_2' hcx_3' hbx'
   have hm8 := HSJ.out.1
   obtain ⟨wo, rfl⟩ : ∃ wo : World, wo = wr := ⟨_, rfl⟩
   have BI := Lib.hid (Below.refl w3.heap.size w3)
   go_wp2_with fail
   go_loopw [25] (fun i wr => ∃ t : Nat, t ≤ r.k.bases.length ∧ i = .int .i64 t ∧ Hid (Below w3.heap.size w3 wr) ∧ Hid (((List.zipWith (hold2 G x) r.k.bases r.k.images).take t).all id = true)) (fun i _ => r.k.bases.length - (intOf i).toNat)
   case atStart => exact ⟨0, Nat.zero_le _, rfl, BI, rfl⟩
   case round =>
    obtain ⟨t, ht, rfl, HL9, HAI⟩ := hrel
    have hb9 := HL9.out
    clear HL9 bs_
    replace Hbs := Lib.hid (Hbs.out.up hb9)
    clear bc_
    replace Hbc := Lib.hid (Hbc.out.up hb9)
    replace HG := Lib.hid (HG.out.up hb9)
    replace BL := hbu BL hb9
    replace BR := hbu BR hb9
    replace BI := hbu BI hb9
    replace HB := hbu HB hb9
    replace HZS := sz HZS hb9.size
    clear hb9
    have bs_ := Hbs.out.c2
    have bc_ := Hbc.out.c3
    by_cases htm : t < r.k.bases.length
    ·have hti : t < r.k.images.length := by rw [HSJ.out.2]; exact htm
     obtain ⟨b9, o9, rfl, hb90, hb9', hcp⟩ := HP.out.elemUp BI.out (powC_len G _) (by omega) t htm
     have hci := ((HAT.out.i.up BR.out).elemS (limC_len _) (by omega) t hti).2
     have hil := Nat.lt_of_lt_of_le HAT.out.il BR.out.size
     have HTN := Lib.hid (zalls_snoc (f := hold2 G x) htm hti HAI.out)
     have HTO := Lib.hid (zalls_not (f := hold2 G x) htm hti)
     generalize r.k.bases[t] = bb at *
     generalize r.k.images[t] = mm at *
     obtain ⟨q, hq⟩ : ∃ q, hold2 G x bb mm = q := ⟨_, rfl⟩
     have HQ := Lib.hid hq
     clear hq
     have hcp_0 := hcp 0 _ rfl
     rw [Nat.add_zero] at hcp_0
     have hcp_1 := hcp 1 _ rfl
     have hcp_2 := hcp 2 _ rfl
     have hcp_3 := hcp 3 _ rfl
     clear hcp
     have hci_0 := hci 0 _ rfl
     rw [Nat.add_zero] at hci_0
     have hci_1 := hci 1 _ rfl
     have hci_2 := hci 2 _ rfl
     have hci_3 := hci 3 _ rfl
     clear hci
     have BQ := Lib.hid (Below.refl wr.heap.size wr)
     have o4_bs_ := bs_; clear bs_
     have o4_bc_ := bc_; clear bc_
     obtain ⟨w4, hq4, hb9, hz9, Hbp⟩ := new1 wr 127 [.int .u64 (dig (mont G.p.m (numOf bb ^ (numOf x % G.q.m))) 0 : Int), .int .u64 (dig (mont G.p.m (numOf bb ^ (numOf x % G.q.m))) 1 : Int), .int .u64 (dig (mont G.p.m (numOf bb ^ (numOf x % G.q.m))) 2 : Int), .int .u64 (dig (mont G.p.m (numOf bb ^ (numOf x % G.q.m))) 3 : Int)]
     replace Hbs := Lib.hid (Hbs.out.up hb9)
     replace Hbc := Lib.hid (Hbc.out.up hb9)
     replace HG := Lib.hid (HG.out.up hb9)
     replace BL := hbu BL hb9
     replace BR := hbu BR hb9
     replace BI := hbu BI hb9
     replace BQ := hbu BQ hb9
     replace HB := hbu HB hb9
     replace HZS := sz HZS hz9.out
     clear hb9 hz9
     have bs_ := Hbs.out.c2
     have bc_ := Hbc.out.c3
     have bp_ := Hbp.out.c4
     go_wp2_with fail
     clear hq4 o4_bc_ o4_bs_
     have hil' := Nat.lt_of_lt_of_le hil BQ.out.size
     have hci_0' := (BQ.out.cell (p := ⟨r.ib, r.io + t * 4, none⟩) hil).trans hci_0
     have hci_1' := (BQ.out.cell (p := ⟨r.ib, r.io + t * 4 + 1, none⟩) hil).trans hci_1
     have hci_2' := (BQ.out.cell (p := ⟨r.ib, r.io + t * 4 + 2, none⟩) hil).trans hci_2
     have hci_3' := (BQ.out.cell (p := ⟨r.ib, r.io + t * 4 + 3, none⟩) hil).trans hci_3
     clear hci_0 hci_1 hci_2 hci_3 hcp_0 hcp_1 hcp_2 hcp_3
     have hl_bs := Hbs.out.lt
     have hl_bc := Hbc.out.lt
     have hl_bp := Hbp.out.lt
     refine wp_region_over (by kernel_rfl) (by kernel_rfl) ?_
     have hov_bs := fun (E : Over w4) o => E.cell (b := w.heap.size) o hl_bs
     have hov_bc := fun (E : Over w4) o => E.cell (b := wo.heap.size) o hl_bc
     have hov_bp := fun (E : Over w4) o => E.cell (b := wr.heap.size) o hl_bp
     have hov_r_ib := fun (E : Over w4) o => E.cell (b := r.ib) o hil'
     repeat (go_big_quiet_step (first | (go_at_call 119; exact calls_over (gSame_b G OK.out gb (numOf bb ^ (numOf x % G.q.m)) (numOf mm) q HQ.out _ (HG.out.up (Over.h _))))))
     all_goals (try unfold elV limbV)
     repeat (go_big_quiet_step (first | (go_at_call 119; exact calls_over (gSame_b G OK.out gb (numOf bb ^ (numOf x % G.q.m)) (numOf mm) q HQ.out _ (HG.out.up (Over.h _))))))
     all_goals (try unfold elV limbV)
     repeat (go_big_quiet_step (first | (go_at_call 119; exact calls_over (gSame_b G OK.out gb (numOf bb ^ (numOf x % G.q.m)) (numOf mm) q HQ.out _ (HG.out.up (Over.h _))))))
     all_goals (try unfold ciphV)
     refine wpQuiet_nil ?_
     rintro _ ⟨E, rfl⟩
     clear hov_bs hl_bs hov_bc hl_bc hov_bp hl_bp hov_r_ib bs_
     replace Hbs := Lib.hid (Hbs.out.up E.h)
     clear bc_
     replace Hbc := Lib.hid (Hbc.out.up E.h)
     clear bp_
     replace Hbp := Lib.hid (Hbp.out.up E.h)
     replace HG := Lib.hid (HG.out.up E.h)
     replace BL := hbu BL E.h
     replace BR := hbu BR E.h
     replace BI := hbu BI E.h
     replace BQ := hbu BQ E.h
     replace HB := hbu HB E.h
     replace HZS := sz HZS E.h.size
     obtain ⟨w5, hq9⟩ : ∃ W9 : World, E.w = W9 := ⟨_, rfl⟩
     rw [hq9] at Hbs Hbc Hbp HG BL BR BI BQ HB HZS ⊢
     clear hq9 E
     have bs_ := Hbs.out.c2
     have bc_ := Hbc.out.c3
     have bp_ := Hbp.out.c4
     cases q
     ·obtain rfl : b = false := by rw [← HBB.out]; exact HNO.out (HTO.out HQ.out)
      go_wp2_with fail
      go_ret
      exact ⟨rfl, HB.out⟩
     ·go_wp2_with fail
      go_roundw
      case rel => exact ⟨t + 1, by omega, by go_num, BI, HTN.out HQ.out⟩
      case measure => simp [intOf]; omega
    ·have htm' : t = r.k.bases.length := by omega
     subst htm'
     have HHT := Lib.hid (HSN.out (zalls_end rfl HAI.out))
     go_wp2_with fail
     go_roundw
     case rel => exact ⟨j + 1, by omega, by go_num, BL, HHT⟩
     case measure => simp [intOf]; omega
  ·have hjn' : j = n := by omega
   subst hjn'
   obtain rfl : b = true := by rw [← HBB.out]; exact zalls_end (by rw [List.length_map]; exact HRS.out) HAL.out
   go_wp2_with fail
   go_ret
   exact ⟨rfl, HB.out⟩
end Go.Proofs.YtdlnnkbigeiilaaGreat
namespace Go.Proofs.YtdlnnkbigeiilaaGreat
open Go.RowKit
def claim0 : ClaimA := ⟨none, 0, [], none, 0, []⟩
def valF (G : GP) (l : List ClaimA) (xs : List ByteArray) (i t : Nat) : Nat := numOf ((l.getD i claim0).bases.getD t ⟨#[]⟩) ^ (numOf (xs.getD i ⟨#[]⟩) % G.q.m)
def valB (G : GP) (y : Nat) (l : List ClaimA) (xs : List ByteArray) (i t : Nat) : Nat := valF G l xs i t * numOf ((l.getD i claim0).images.getD t ⟨#[]⟩) ^ (y % G.q.m)
theorem valF_eq (G : GP) {rs : List ClaimR} {xs : List ByteArray} {i t : Nat} (hi : i < rs.length) (hx : i < xs.length) (ht : t < rs[i].k.bases.length) : valF G (rs.map ClaimR.k) xs i t = numOf rs[i].k.bases[t] ^ (numOf xs[i] % G.q.m) := by
 unfold valF
 simp [List.getD, hi, hx, ht]
theorem valB_eq (G : GP) (y : Nat) {rs : List ClaimR} {xs : List ByteArray} {i t : Nat} (hi : i < rs.length) (hx : i < xs.length) (ht : t < rs[i].k.bases.length) (hti : t < rs[i].k.images.length) : valB G y (rs.map ClaimR.k) xs i t = numOf rs[i].k.bases[t] ^ (numOf xs[i] % G.q.m) * numOf rs[i].k.images[t] ^ (y % G.q.m) := by
 unfold valB
 rw [valF_eq G hi hx ht]
 simp [List.getD, hi, hti]
def lens (l : List ClaimA) : List Nat := l.map fun k => k.bases.length
theorem firsts_any (G : GP) (ok : G.Ok) (gb : Nat) (rs : List ClaimR) (n : Nat) (hrs : rs.length = n) (hn : n ≤ 64) (hm8 : ∀ r ∈ rs, r.k.bases.length ≤ 8) (a : Option Addr) (c : Nat) (xs : List ByteArray) (hxs : xs.length = n) (ax : Option Addr) (cx : Nat) (w : World) (hG : GroupAt w gb G) (hS : SetAt G w a rs) (hX : Sl w w.heap.size ax (xs.flatMap (limC G.q.m))) :
  Calls Tryz.prog 67 #[.agg #[.pointer (some ⟨gb, 0, none⟩), .slice a n c], .slice ax n cx] w (RowsF (eachA G (valF G (rs.map ClaimR.k) xs) (lens (rs.map ClaimR.k)) n) w) := by
 have HRS := Lib.hid hrs
 have HXS := Lib.hid hxs
 have HM8 := Lib.hid hm8
 have HG := Lib.hid hG
 have OK := Lib.hid ok
 have HS := Lib.hid hS
 have HX := Lib.hid hX
 have HML := Lib.hid (show rs.map (fun r => r.k.bases.length) = lens (rs.map ClaimR.k) by unfold lens; rw [List.map_map]; rfl)
 have HLG := Lib.hid (show ∀ i (hi : i < rs.length), (lens (rs.map ClaimR.k)).getD i 0 = rs[i].k.bases.length from fun i hi => by unfold lens; simp [List.getD, hi])
 clear hrs hxs hm8 hG ok hS hX
 go_enter Tryz.func67, Tryz.ntmps67
 go_wp2_with fail
 obtain ⟨w1, hq1, hb9, hz9, Hbs, Hbx⟩ := new2 w 64 [.pointer (some ⟨gb, 0, none⟩), .slice a n c] 65 [.slice ax n cx]
 rw [hq1]
 clear hq1
 replace HG := Lib.hid (HG.out.up hb9)
 have HB := Lib.hid hb9
 have HZS := hz9
 clear hb9 hz9
 have bs_ := Hbs.out.c2
 have bx_ := Hbx.out.c1
 go_wp2_with fail
 have HB9 := Lib.hid HB.out.size
 refine (eachFirst G OK.out gb rs n HRS.out hn (lens (rs.map ClaimR.k)) HML.out HM8.out a c _ _ (valF G (rs.map ClaimR.k) xs) w1 HG.out (HS.out.up HB.out) (fun w9 hb9 i t hi ht => by rw [HLG.out i (by rw [HRS.out]; exact hi)] at ht; rw [valF_eq G (by rw [HRS.out]; exact hi) (by rw [HXS.out]; exact hi) ht]; exact first1_any G OK.out gb _ _ rs n a c xs ax cx i t (by rw [HRS.out]; exact hi) (by rw [HXS.out]; exact hi) ht w9 (HG.out.up hb9) (HS.out.up (below_up HB.out hb9)) (HX.out.up (below_up HB.out hb9)) HRS.out HXS.out (Hbs.out.up hb9) (Hbx.out.up hb9))).mono ?_
 rintro e w2 ⟨hb9, a9, c9, ro, rfl, hm9, hr9, hz9⟩
 clear bs_
 replace Hbs := Lib.hid (Hbs.out.up hb9)
 clear bx_
 replace Hbx := Lib.hid (Hbx.out.up hb9)
 replace HG := Lib.hid (HG.out.up hb9)
 replace HB := hbu HB hb9
 replace HZS := sz HZS hb9.size
 have HMR := Lib.hid hm9
 clear hm9
 have HRR := Lib.hid hr9
 clear hr9
 have HZR := Lib.hid hz9
 clear hz9 hb9
 have bs_ := Hbs.out.c2
 have bx_ := Hbx.out.c1
 go_wp2_with fail
 go_ret
 exact ⟨HB.out, a9, c9, ro, rfl, HMR.out, HRR.out, fresh_le HZR.out HB9.out⟩
theorem back_any (G : GP) (ok : G.Ok) (gb y : Nat) (hy : y ≤ G.q.m) (rs : List ClaimR) (n : Nat) (hrs : rs.length = n) (hn : n ≤ 64) (hm8 : ∀ r ∈ rs, r.k.bases.length ≤ 8 ∧ r.k.images.length = r.k.bases.length) (a : Option Addr) (c : Nat) (xs : List ByteArray) (hxs : xs.length = n) (ax : Option Addr) (cx : Nat) (w : World) (hG : GroupAt w gb G) (hS : SetAt G w a rs) (hX : Sl w w.heap.size ax (xs.flatMap (limC G.q.m))) :
  Calls Tryz.prog 41 #[.agg #[.pointer (some ⟨gb, 0, none⟩), .slice a n c], scV G y, .slice ax n cx] w (RowsF (eachA G (valB G (G.q.m - y) (rs.map ClaimR.k) xs) (lens (rs.map ClaimR.k)) n) w) := by
 have HRS := Lib.hid hrs
 have HXS := Lib.hid hxs
 have HM8 := Lib.hid hm8
 have HG := Lib.hid hG
 have OK := Lib.hid ok
 have HS := Lib.hid hS
 have HX := Lib.hid hX
 have HY := Lib.hid hy
 have HML := Lib.hid (show rs.map (fun r => r.k.bases.length) = lens (rs.map ClaimR.k) by unfold lens; rw [List.map_map]; rfl)
 have HLG := Lib.hid (show ∀ i (hi : i < rs.length), (lens (rs.map ClaimR.k)).getD i 0 = rs[i].k.bases.length from fun i hi => by unfold lens; simp [List.getD, hi])
 clear hrs hxs hm8 hG ok hS hX hy
 unfold scV limbV
 go_enter Tryz.func41, Tryz.ntmps41
 go_wp2_with fail
 obtain ⟨w1, hq1, hb9, hz9, Hbs, Hbc, Hbx⟩ := new3 w 64 [.pointer (some ⟨gb, 0, none⟩), .slice a n c] 72 [.int .u64 (dig (mont G.q.m y) 0 : Int), .int .u64 (dig (mont G.q.m y) 1 : Int), .int .u64 (dig (mont G.q.m y) 2 : Int), .int .u64 (dig (mont G.q.m y) 3 : Int)] 65 [.slice ax n cx]
 rw [hq1]
 clear hq1
 replace HG := Lib.hid (HG.out.up hb9)
 have HB := Lib.hid hb9
 have HZS := hz9
 clear hb9 hz9
 have bs_ := Hbs.out.c2
 have bc_ := Hbc.out.c4
 have bx_ := Hbx.out.c1
 go_wp2_with fail
 refine (gNeg_any G OK.out gb y HY.out w1 HG.out).mono ?_
 rintro e w2 ⟨rfl, hb9⟩
 clear bs_
 replace Hbs := Lib.hid (Hbs.out.up hb9)
 clear bc_
 replace Hbc := Lib.hid (Hbc.out.up hb9)
 clear bx_
 replace Hbx := Lib.hid (Hbx.out.up hb9)
 replace HG := Lib.hid (HG.out.up hb9)
 replace HB := hbu HB hb9
 replace HZS := sz HZS hb9.size
 clear hb9
 have bs_ := Hbs.out.c2
 have bc_ := Hbc.out.c4
 have bx_ := Hbx.out.c1
 unfold scV limbV
 have o3_bs_ := bs_; clear bs_
 have o3_bc_ := bc_; clear bc_
 have o3_bx_ := bx_; clear bx_
 obtain ⟨w3, hq3, hb9, hz9, Hbm⟩ := new1 w2 72 [.int .u64 (dig (mont G.q.m (G.q.m - y)) 0 : Int), .int .u64 (dig (mont G.q.m (G.q.m - y)) 1 : Int), .int .u64 (dig (mont G.q.m (G.q.m - y)) 2 : Int), .int .u64 (dig (mont G.q.m (G.q.m - y)) 3 : Int)]
 replace Hbs := Lib.hid (Hbs.out.up hb9)
 replace Hbc := Lib.hid (Hbc.out.up hb9)
 replace Hbx := Lib.hid (Hbx.out.up hb9)
 replace HG := Lib.hid (HG.out.up hb9)
 replace HB := hbu HB hb9
 replace HZS := sz HZS hz9.out
 clear hb9 hz9
 have bs_ := Hbs.out.c2
 have bc_ := Hbc.out.c4
 have bx_ := Hbx.out.c1
 have bm_ := Hbm.out.c4
 go_wp2_with fail
 clear hq3 o3_bx_ o3_bc_ o3_bs_
 have HB9 := Lib.hid HB.out.size
 refine (eachBack G OK.out gb rs n HRS.out hn (lens (rs.map ClaimR.k)) HML.out (fun r hr => (HM8.out r hr).1) a c _ _ _ (valB G (G.q.m - y) (rs.map ClaimR.k) xs) w3 HG.out (HS.out.up HB.out) (fun w9 hb9 i t hi ht => by rw [HLG.out i (by rw [HRS.out]; exact hi)] at ht; have hti := (HM8.out _ (List.getElem_mem (show i < rs.length by rw [HRS.out]; exact hi))).2; rw [valB_eq G _ (by rw [HRS.out]; exact hi) (by rw [HXS.out]; exact hi) ht (by omega)]; exact back1_any G OK.out gb _ _ _ (G.q.m - y) rs n a c xs ax cx i t (by rw [HRS.out]; exact hi) (by rw [HXS.out]; exact hi) ht (by omega) w9 (HG.out.up hb9) (HS.out.up (below_up HB.out hb9)) (HX.out.up (below_up HB.out hb9)) HRS.out HXS.out (Hbs.out.up hb9) (Hbx.out.up hb9) (Hbm.out.up hb9))).mono ?_
 rintro e w4 ⟨hb9, a9, c9, ro, rfl, hm9, hr9, hz9⟩
 clear bs_
 replace Hbs := Lib.hid (Hbs.out.up hb9)
 clear bc_
 replace Hbc := Lib.hid (Hbc.out.up hb9)
 clear bx_
 replace Hbx := Lib.hid (Hbx.out.up hb9)
 clear bm_
 replace Hbm := Lib.hid (Hbm.out.up hb9)
 replace HG := Lib.hid (HG.out.up hb9)
 replace HB := hbu HB hb9
 replace HZS := sz HZS hb9.size
 have HMR := Lib.hid hm9
 clear hm9
 have HRR := Lib.hid hr9
 clear hr9
 have HZR := Lib.hid hz9
 clear hz9 hb9
 have bs_ := Hbs.out.c2
 have bc_ := Hbc.out.c4
 have bx_ := Hbx.out.c1
 have bm_ := Hbm.out.c4
 go_wp2_with fail
 go_ret
 exact ⟨HB.out, a9, c9, ro, rfl, HMR.out, HRR.out, fresh_le HZR.out HB9.out⟩
end Go.Proofs.YtdlnnkbigeiilaaGreat
namespace Go.Proofs.YtdlnnkbigeiilaaGreat
open Go.RowKit
def openK (k : Int) (l : List ClaimA) (xs : List ByteArray) : Nat := if 1 ≤ k ∧ k ≤ 3 then openE (grp k.toNat) l xs else 1
def firstK (k : Int) (l : List ClaimA) (xs : List ByteArray) : List (List ByteArray) := if openK k l xs = 0 then eachA (grp k.toNat) (valF (grp k.toNat) l xs) (lens l) l.length else []
theorem openK_ok {k : Int} {l : List ClaimA} {xs : List ByteArray} (h : openK k l xs = 0) : (1 ≤ k ∧ k ≤ 3) ∧ shapeE l = 0 ∧ l.all (cElems (grp k.toNat)) = true ∧ xs.length = l.length ∧ xs.all (isSc (grp k.toNat).q.m (grp k.toNat).size) = true := by
 unfold openK at h
 by_cases hk : 1 ≤ k ∧ k ≤ 3
 ·rw [if_pos hk] at h
  unfold openE at h
  by_cases hw : wrongE (grp k.toNat) l = 0
  ·rw [if_neg (by simpa using hw)] at h
   unfold scE at h
   by_cases hl : xs.length = l.length
   ·rw [if_pos hl] at h
    by_cases ha : xs.all (isSc (grp k.toNat).q.m (grp k.toNat).size) = true
    ·exact ⟨hk, (wrong_ok hw).1, (wrong_ok hw).2, hl, ha⟩
    ·rw [if_neg ha] at h; cases h
   ·rw [if_neg hl] at h; cases h
  ·rw [if_pos hw] at h; exact absurd h hw
 ·rw [if_neg hk] at h; cases h
end Go.Proofs.YtdlnnkbigeiilaaGreat
namespace Go.Proofs.YtdlnnkbigeiilaaGreat
open Go.RowKit Go.Lib
def chT (s label : ByteArray) : ByteArray := tagS askedB [tagS askedB [s, label], label]
def chN (s label : ByteArray) : Nat := numOf (tagS askB [s, label] ++ tagS askB [tagS askedB [s, label], label])
theorem chT_size (s label : ByteArray) : (chT s label).size = 32 := tagS_size _ _
theorem ask2_size (a b : List ByteArray) : (tagS askB a ++ tagS askB b).size = 64 := by rw [ByteArray.size_append, tagS_size, tagS_size]
theorem numSet {W : World} {b : Nat} {t : TypeId} {s : ByteArray} {a : Option Addr} {n : Nat} (h : NumAt W a n) (hb : Bx W b t [.string s]) (i : Nat) (v : Value) : NumAt (W.setCell ⟨b, i, none⟩ v) a n := by
 by_cases h0 : dl n = 0
 ·exact Or.inl (by rw [List.map_eq_nil_iff]; exact List.eq_nil_of_length_eq_zero (by rw [digs_length]; exact h0))
 ·refine Sl.kept h ((Kept.refl (fun q => q = b) W).set rfl i v) (fun x hx e => ?_)
  obtain ⟨b', off, rfl, hl, hc⟩ := NumAt.all h (by omega)
  have e1 : b' = b := by rw [← Option.some.inj hx] at e; exact e
  subst e1
  have h1 := hc 0 (by omega)
  rw [World.cell?, show W.heap[b']? = _ from hb] at h1
  rcases off with _ | off
  ·simp at h1
  ·simp at h1
theorem gChallenge_any (G : GP) (ok : G.Ok) (gb tb : Nat) (s label : ByteArray) (hs : s.size < 140737488355328) (hl : label.size < 140737488355328) (w : World) (hG : GroupAt w gb G) (hT : TalkAt w tb s) (hne : ¬ gb = tb) :
  Calls Tryz.prog 42 #[.pointer (some ⟨gb, 0, none⟩), .pointer (some ⟨tb, 0, none⟩), .string label] w fun e w' => e = .returned (scV G (chN s label)) ∧ TalkAt w' tb (chT s label) ∧ Kept (fun q => q = tb) w w' := by
 obtain ⟨s1, hs1⟩ : ∃ x, tagS askedB [s, label] = x := ⟨_, rfl⟩
 have hz1 : s1.size < 140737488355328 := by rw [← hs1, tagS_size]; decide
 have HA1 := Lib.hid (fun w h => Ask_any tb s label hs hl w h)
 have HA2 := Lib.hid (fun w h => Ask_any tb s1 label hz1 hl w h)
 unfold chN chT
 rw [hs1] at HA1 ⊢
 obtain ⟨s2, hs2⟩ : ∃ x, tagS askedB [s1, label] = x := ⟨_, rfl⟩
 rw [hs2] at HA2 ⊢
 obtain ⟨A, hA⟩ : ∃ x, tagS askB [s, label] = x := ⟨_, rfl⟩
 obtain ⟨D, hD⟩ : ∃ x, tagS askB [s1, label] = x := ⟨_, rfl⟩
 have hsz : (A ++ D).size ≤ maxLen := by rw [← hA, ← hD, ask2_size]; decide
 have hcc : ¬ (9223372036854775807 < A.size + D.size) := by rw [← hA, ← hD, tagS_size, tagS_size]; decide
 rw [hA] at HA1 ⊢
 rw [hD] at HA2 ⊢
 have HR := Lib.hid (fun w h => gReduce_any G ok gb (A ++ D) hsz w h)
 unfold scV limbV at HR ⊢
 generalize mont G.q.m (numOf (A ++ D)) = n at HR ⊢
 have HG := Lib.hid hG
 have HT := Lib.hid hT
 have HNE := Lib.hid hne
 have HLT := Lib.hid hT.lt
 clear hG hT hne ok hs hl hz1 hs1 hs2 hA hD hsz
 go_enter Tryz.func42, Tryz.ntmps42
 go_wp2_with fail
 obtain ⟨w1, hq1, hb9, hz9, Ho⟩ := new1 w 72 [.int .u64 0, .int .u64 0, .int .u64 0, .int .u64 0]
 rw [hq1]
 clear hq1
 have HB := Lib.hid hb9
 have HZS := hz9
 clear hb9 hz9
 have o_ := Ho.out.c4
 go_wp2_with fail
 refine (HA1.out _ (HT.out.up HB.out)).mono ?_
 rintro e wz ⟨rfl, ht, hk⟩
 have HG1 := Lib.hid ((HG.out.up HB.out).keptP hk HNE.out)
 have Ht := Lib.hid ht
 have HK := Lib.hid (((Kept.refl (fun q => q = tb) w).up HB.out).trans hk)
 have Ho1 := Lib.hid (Ho.out.keptP hk (show ¬ w.heap.size = tb by have := HLT.out; omega))
 clear HB HT HG Ho o_ ht hk HA1
 have Ho := Ho1
 clear Ho1
 go_wp2_with fail
 refine (HA2.out _ Ht.out).mono ?_
 rintro e wy ⟨rfl, ht, hk⟩
 have HG2 := Lib.hid (HG1.out.keptP hk HNE.out)
 have HK2 := Lib.hid (HK.out.trans hk)
 have Ho2 := Lib.hid (Ho.out.keptP hk (show ¬ w.heap.size = tb by have := HLT.out; omega))
 have HT2 := Lib.hid ht
 clear HG1 HK Ho Ht ht hk HA2
 go_wp2_with fail
 refine (HR.out _ HG2.out).mono ?_
 rintro e wx ⟨rfl, hb9⟩
 have Ht := Lib.hid (HT2.out.up hb9)
 have HK := Lib.hid (HK2.out.up hb9)
 have Ho := Lib.hid (Ho2.out.up hb9)
 have HZS : Hid (w.heap.size < wx.heap.size) := HK.out.size |> fun _ => Ho.out.lt
 clear HG2 HK2 Ho2 HT2 hb9 HR HNE
 have o_ := Ho.out.c4
 replace HZS := sz HZS HLT.out
 have f2_o := Ho.out.frozen
 have o2_o_ := o_; clear o_
 obtain ⟨w2, hq2, hg9, hz9, hx9⟩ := put4 Ho 0 (.int .u64 (dig n 0 : Int)) 1 (.int .u64 (dig n 1 : Int)) 2 (.int .u64 (dig n 2 : Int)) 3 (.int .u64 (dig n 3 : Int)) [.int .u64 (dig n 0 : Int), .int .u64 (dig n 1 : Int), .int .u64 (dig n 2 : Int), .int .u64 (dig n 3 : Int)] rfl
 replace Ht := Lib.hid (Ht.out.grown hg9.out (sne (by have g0 := HZS.out; omega)))
 replace HK := Lib.hid (Kept.grown HK.out hg9.out (fun q9 e9 => by obtain rfl := Option.some.inj e9; exact Or.inl (show w.heap.size ≤ w.heap.size by have g0 := HZS.out; omega)))
 replace HZS := sz HZS hz9.out
 replace Ho := hx9
 clear hx9 hg9 hz9
 have o_ := Ho.out.c4
 go_wp2_with fail
 clear hq2 o2_o_ f2_o
 simp [bodyPost, results, Tryz.results42, go_sem, o_]
 exact ⟨Ht.out, HK.out⟩
theorem rChallenge_any (gz q : Nat) (pv : Value) (hq : 0 < q) (aq : Option Addr) (cq : Nat) (s label : ByteArray) (hs : s.size < 140737488355328) (hl : label.size < 140737488355328) (w : World) (hQ : NumAt w aq q) :
  Calls Tryz.prog 45 #[.agg #[.int .i64 (gz : Int), .slice aq (dl q) cq, pv], .agg #[.string s], .string label] w fun e w' => ∃ a c, e = .returned (.tuple #[.slice a (dl (chN s label % q)) c, .agg #[.string (chT s label)]]) ∧ NumAt w' a (chN s label % q) ∧ Below w.heap.size w w' := by
 obtain ⟨s1, hs1⟩ : ∃ x, tagS askedB [s, label] = x := ⟨_, rfl⟩
 have hz1 : s1.size < 140737488355328 := by rw [← hs1, tagS_size]; decide
 have HA1 := Lib.hid (fun w => rAsk_any s label hs hl w)
 have HA2 := Lib.hid (fun w => rAsk_any s1 label hz1 hl w)
 unfold chN chT
 rw [hs1] at HA1 ⊢
 obtain ⟨s2, hs2⟩ : ∃ x, tagS askedB [s1, label] = x := ⟨_, rfl⟩
 rw [hs2] at HA2 ⊢
 obtain ⟨A, hA⟩ : ∃ x, tagS askB [s, label] = x := ⟨_, rfl⟩
 obtain ⟨D, hD⟩ : ∃ x, tagS askB [s1, label] = x := ⟨_, rfl⟩
 have hsz : (A ++ D).size ≤ 1048576 := by rw [← hA, ← hD, ask2_size]; decide
 have hcc : ¬ (9223372036854775807 < A.size + D.size) := by rw [← hA, ← hD, tagS_size, tagS_size]; decide
 have hdl : dl (numOf (A ++ D)) ≤ 1048576 := by
  refine Nat.le_trans (dl_of_lt _ 32 ?_) (by decide)
  have h := numL_lt (A ++ D).data.toList
  have e : (A ++ D).data.toList.length = 64 := by show (A ++ D).size = 64; rw [← hA, ← hD, ask2_size]
  rw [e] at h
  exact h
 rw [hA] at HA1 ⊢
 rw [hD] at HA2 ⊢
 have HRD := Lib.hid (fun w => refRead_any (A ++ D) hsz w)
 obtain ⟨n, hn⟩ : ∃ x, numOf (A ++ D) = x := ⟨_, rfl⟩
 rw [hn] at HRD hdl ⊢
 have HMD := Lib.hid (fun aa am ca cm w h1 h2 => refMod_any n q aa am ca cm hdl hq w h1 h2)
 have HQ := Lib.hid hQ
 clear hQ hq hs hl hz1 hs1 hs2 hA hD hsz hdl hn
 go_enter Tryz.func45, Tryz.ntmps45
 go_wp2_with fail
 obtain ⟨w1, hq1, hb9, hz9, Hbg, Hbt, Ho⟩ := new3 w 86 [.int .i64 (gz : Int), .slice aq (dl q) cq, pv] 89 [.string s] 89 [.string ⟨#[]⟩]
 rw [hq1]
 clear hq1
 have HB := Lib.hid hb9
 have HZS := hz9
 clear hb9 hz9
 have bg_ := Hbg.out.c3
 have bt_ := Hbt.out.c1
 have o_ := Ho.out.c1
 go_wp2_with fail
 refine (HA1.out w1).mono ?_
 rintro e w2 ⟨rfl, hb9⟩
 clear bg_
 replace Hbg := Lib.hid (Hbg.out.up hb9)
 clear bt_
 replace Hbt := Lib.hid (Hbt.out.up hb9)
 clear o_
 replace Ho := Lib.hid (Ho.out.up hb9)
 replace HB := hbu HB hb9
 replace HZS := sz HZS hb9.size
 clear hb9
 have bg_ := Hbg.out.c3
 have bt_ := Hbt.out.c1
 have o_ := Ho.out.c1
 have f3_bt := Hbt.out.frozen
 have o3_bg_ := bg_; clear bg_
 have o3_bt_ := bt_; clear bt_
 have o3_o_ := o_; clear o_
 obtain ⟨w3, hq3, hg9, hz9, hx9⟩ := put1 Hbt 0 (.string s1) [.string s1] rfl
 replace Hbg := Lib.hid (Hbg.out.grown hg9.out (sne (by have g0 := HZS.out; omega)))
 replace Ho := Lib.hid (Ho.out.grown hg9.out (sne (by have g0 := HZS.out; omega)))
 replace HB := hbg HB hg9 (by have g0 := HZS.out; omega)
 replace HZS := sz HZS hz9.out
 replace Hbt := hx9
 clear hx9 hg9 hz9
 have bg_ := Hbg.out.c3
 have bt_ := Hbt.out.c1
 have o_ := Ho.out.c1
 go_wp2_with fail
 clear hq3 o3_o_ o3_bt_ o3_bg_ f3_bt
 refine (HA2.out w3).mono ?_
 rintro e w4 ⟨rfl, hb9⟩
 clear bg_
 replace Hbg := Lib.hid (Hbg.out.up hb9)
 clear bt_
 replace Hbt := Lib.hid (Hbt.out.up hb9)
 clear o_
 replace Ho := Lib.hid (Ho.out.up hb9)
 replace HB := hbu HB hb9
 replace HZS := sz HZS hb9.size
 clear hb9
 have bg_ := Hbg.out.c3
 have bt_ := Hbt.out.c1
 have o_ := Ho.out.c1
 have f5_bt := Hbt.out.frozen
 have o5_bg_ := bg_; clear bg_
 have o5_bt_ := bt_; clear bt_
 have o5_o_ := o_; clear o_
 obtain ⟨w5, hq5, hg9, hz9, hx9⟩ := put1 Hbt 0 (.string s2) [.string s2] rfl
 replace Hbg := Lib.hid (Hbg.out.grown hg9.out (sne (by have g0 := HZS.out; omega)))
 replace Ho := Lib.hid (Ho.out.grown hg9.out (sne (by have g0 := HZS.out; omega)))
 replace HB := hbg HB hg9 (by have g0 := HZS.out; omega)
 replace HZS := sz HZS hz9.out
 replace Hbt := hx9
 clear hx9 hg9 hz9
 have bg_ := Hbg.out.c3
 have bt_ := Hbt.out.c1
 have o_ := Ho.out.c1
 go_wp2_with fail
 clear hq5 o5_o_ o5_bt_ o5_bg_ f5_bt
 have HT := Lib.hid (show Below w5.heap.size w5 w5.drew from (Below.refl _ _).drew)
 have hl_bg := Hbg.out.lt
 have hl_bt := Hbt.out.lt
 refine wp_region_tree (fun wq9 => ∃ E : But w5 (some (w.heap.size + 2)), wq9 = E.w) ((.qs [0, 1, 2, 4, 5, 7] (.a 3 (.a 6 (.qs [8] (.a 9 .done)))))) (by kernel_rfl) (by kernel_rfl) (fun _ _ d _ _ h => by cases d <;> exact h) ⟨⟨_, ((below_grown HT.out).but _)⟩, rfl⟩ ?_
 have hov_bg := fun (E : But w5 (some (w.heap.size + 2))) o => E.cell (b := w.heap.size) o hl_bg (by intro e9; have a0 := Option.some.inj e9; have g0 := HZS.out; omega)
 have hov_bt := fun (E : But w5 (some (w.heap.size + 2))) o => E.cell (b := w.heap.size + 1) o hl_bt (by intro e9; have a0 := Option.some.inj e9; have g0 := HZS.out; omega)
 simp only [Tree.qs]
 repeat (refine tree_q rfl rfl ?_; go_big_quiet_step (fail); refine wpQuiet_nil ?_)
 refine tree_a rfl (fun K hK => ?_)
 go_simp
 refine (HRD.out _).mono ?_
 rintro e w6 ⟨a4, c4, rfl, hn9, hb9⟩
 replace HT := Lib.hid (below_up HT.out hb9)
 replace HZS := sz HZS (show w5.heap.size ≤ w6.heap.size from HT.out.size)
 clear hb9
 have HN4 := Lib.hid hn9
 clear hn9
 refine hK _ _ ⟨⟨⟨w6, ((below_grown HT.out).but _)⟩, rfl⟩, ?_⟩
 clear hK K
 repeat (refine tree_q rfl rfl ?_; go_big_quiet_step (fail); refine wpQuiet_nil ?_)
 refine tree_a rfl (fun K hK => ?_)
 go_simp
 refine (HMD.out _ _ _ _ _ HN4.out (HQ.out.up (below_up HB.out HT.out))).mono ?_
 rintro e w7 ⟨a5, c5, rfl, hn9, hb9⟩
 replace HN4 := Lib.hid (HN4.out.up hb9)
 replace HT := Lib.hid (below_up HT.out hb9)
 replace HZS := sz HZS (show w5.heap.size ≤ w7.heap.size from HT.out.size)
 clear hb9
 have HN5 := Lib.hid hn9
 clear hn9
 refine hK _ _ ⟨⟨⟨w7, ((below_grown HT.out).but _)⟩, rfl⟩, ?_⟩
 clear hK K
 repeat (refine tree_q rfl rfl ?_; go_big_quiet_step (fail); refine wpQuiet_nil ?_)
 clear hov_bg hl_bg hov_bt hl_bt
 refine tree_a rfl (fun K hK => ?_)
 clear bg_
 replace Hbg := Lib.hid (Hbg.out.up HT.out)
 clear bt_
 replace Hbt := Lib.hid (Hbt.out.up HT.out)
 clear o_
 replace Ho := Lib.hid (Ho.out.up HT.out)
 replace HB := hbu HB HT.out
 replace HZS := sz HZS HT.out.size
 have bg_ := Hbg.out.c3
 have bt_ := Hbt.out.c1
 have o_ := Ho.out.c1
 replace HN5 := Lib.hid (numSet HN5.out Ho.out 0 (.string s2))
 clear HN4
 have f8_o := Ho.out.frozen
 have o8_bg_ := bg_; clear bg_
 have o8_bt_ := bt_; clear bt_
 have o8_o_ := o_; clear o_
 obtain ⟨w8, hq8, hg9, hz9, hx9⟩ := put1 Ho 0 (.string s2) [.string s2] rfl
 replace Hbg := Lib.hid (Hbg.out.grown hg9.out (sne (by have g0 := HZS.out; omega)))
 replace Hbt := Lib.hid (Hbt.out.grown hg9.out (sne (by have g0 := HZS.out; omega)))
 replace HB := hbg HB hg9 (by have g0 := HZS.out; omega)
 replace HZS := sz HZS hz9.out
 replace Ho := hx9
 have HGR := Lib.hid (((below_grown HT.out).but _).trans hg9.out)
 clear hx9 hg9 hz9
 have bg_ := Hbg.out.c3
 have bt_ := Hbt.out.c1
 have o_ := Ho.out.c1
 rw [hq8] at HN5
 clear HT
 go_simp
 try rw [hq8]
 refine hK _ _ ⟨⟨⟨w8, HGR.out⟩, rfl⟩, ?_⟩
 clear hK K HGR hq8 o8_o_ o8_bt_ o8_bg_ f8_o
 repeat (refine tree_q rfl rfl ?_; go_big_quiet_step (fail); refine wpQuiet_nil ?_)
 refine tree_end ?_
 go_wp2_with fail
 simp [bodyPost, results, Tryz.results45, go_sem, o_]
 exact ⟨HN5.out, HB.out⟩
end Go.Proofs.YtdlnnkbigeiilaaGreat
namespace Go.Proofs.YtdlnnkbigeiilaaGreat
open Go.RowKit
theorem kept_grown {b : Nat} {W w : World} (h : Kept (fun q => q = b) W w) : W.grownBy w (some b) :=
 ⟨h.os, h.tape, h.output, h.size, fun q hq hne => h.block q hq (fun e => hne (by rw [e]))⟩
theorem grp_kind (k : Nat) (h1 : 1 ≤ k) (h3 : k ≤ 3) : (grp k).kind = k := by
 obtain rfl | rfl | rfl : k = 1 ∨ k = 2 ∨ k = 3 := by omega
 all_goals rfl
theorem eachA_small {G : GP} {val : Nat → Nat → Nat} {ms : List Nat} {n : Nat} (hs : G.size ≤ 32) (h8 : ∀ i, ms.getD i 0 ≤ 8) {ro : List RowA} (hm : ro.map RowA.l = eachA G val ms n) : ∀ r ∈ ro, r.l.length ≤ 8 ∧ ∀ x ∈ r.l, x.size ≤ 32 := by
 intro r hr
 have h1 : r.l ∈ ro.map RowA.l := List.mem_map.2 ⟨r, hr, rfl⟩
 rw [hm] at h1
 unfold eachA at h1
 obtain ⟨i, _, hi⟩ := List.mem_map.1 h1
 rw [← hi]
 refine ⟨by rw [eachL_len]; exact h8 i, fun x hx => ?_⟩
 unfold eachL at hx
 obtain ⟨t, _, rfl⟩ := List.mem_map.1 hx
 rw [textS_size]
 exact hs
theorem lens_small {l : List ClaimA} (h : ∀ c ∈ l, c.bases.length ≤ 8) (i : Nat) : (lens l).getD i 0 ≤ 8 := by
 unfold lens
 by_cases hi : i < l.length
 ·rw [List.getD_eq_getElem?_getD, List.getElem?_map, List.getElem?_eq_getElem hi]
  exact h _ (List.getElem_mem hi)
 ·rw [List.getD_eq_getElem?_getD, List.getElem?_map, List.getElem?_eq_none (by omega)]
  exact Nat.zero_le _
end Go.Proofs.YtdlnnkbigeiilaaGreat
namespace Go.Proofs.YtdlnnkbigeiilaaGreat
open Go.RowKit
structure SetR where
 s : SetA
 a : Option Addr
 c : Nat
 rs : List ClaimR
def SetR.cells (gb : Nat) (t : SetR) : List Value := [.pointer (some ⟨gb, 0, none⟩), .slice t.a t.rs.length t.c]
theorem SetR.cells_len (gb : Nat) (t : SetR) : (t.cells gb).length = 2 := rfl
structure SetR.Of (G : GP) (t : SetR) : Prop where
 k : t.rs.map ClaimR.k = t.s.l
 p : ∃ bl ol, t.s.a = some ⟨bl, ol, none⟩ ∧ RsP bl ol t.rs
 w : wrongE G t.s.l = 0
theorem SetAt.keptQ {G : GP} {P : Nat → Prop} {w w' : World} {a : Option Addr} {rs : List ClaimR} (h : SetAt G w a rs) (hk : Kept P w w') (h1 : ∀ x, a = some x → ¬ P x.block) (h2 : ∀ r ∈ rs, ¬ P r.bb ∧ ¬ P r.ib) : SetAt G w' a rs :=
 ⟨h.s.kept hk h1, fun r hr => (h.e r hr).keptP hk (h2 r hr).1 (h2 r hr).2⟩
theorem SetAt.lt {G : GP} {w : World} {a : Option Addr} {rs : List ClaimR} (h : SetAt G w a rs) (h0 : 0 < rs.length) (x : Addr) (hx : a = some x) : x.block < w.heap.size :=
 Sl.lt h.s (flat_ne ClaimR.cells_len (by omega) (List.length_pos_iff.1 h0)) x hx
structure SetR.Off (G : GP) (v : Value) (N : Nat) (w : World) (t : SetR) : Prop where
 at_ : SetAt G w t.a t.rs
 new : SetNew N t.a t.rs
 lt : ∀ x, t.a = some x → x.block < w.heap.size
 na : ∀ x, t.a = some x → v.ownBlock ≠ some x.block
 nr : ∀ r ∈ t.rs, v.ownBlock ≠ some r.bb ∧ v.ownBlock ≠ some r.ib
def SetsOff (G : GP) (v : Value) (N : Nat) (w : World) (ts : List SetR) : Prop := ∀ t ∈ ts, t.Off G v N w
theorem SetsOff.up {G : GP} {v : Value} {N : Nat} {w w1 : World} {ts : List SetR} (h : SetsOff G v N w ts) (hb : Below w.heap.size w w1) : SetsOff G v N w1 ts := fun t ht =>
 ⟨(h t ht).at_.up hb, (h t ht).new, fun x hx => Nat.lt_of_lt_of_le ((h t ht).lt x hx) hb.size, (h t ht).na, (h t ht).nr⟩
theorem SetsOff.push {G : GP} {v : Value} {N g n c : Nat} {w w1 : World} {ts : List SetR} {r : SetR} (h : SetsOff G v N w ts) (hr : r.Off G v N w) (hk : Kept (fun q => Value.ownBlock v = some q) w w1) (hf : Value.ownBlock v = some g ∨ w.heap.size ≤ g) : SetsOff G (.slice (some ⟨g, 0, none⟩) n c) N w1 (ts ++ [r]) := fun s hs => by
 have hh : s.Off G v N w := by
  rcases List.mem_append.1 hs with h9 | h9
  ·exact h s h9
  ·rw [List.mem_singleton.1 h9]; exact hr
 have key : ∀ b, b < w.heap.size → v.ownBlock ≠ some b → (Value.slice (some ⟨g, 0, none⟩) n c).ownBlock ≠ some b := fun b hl hv e => by
  have e9 : g = b := Option.some.inj e
  rcases hf with hf | hf
  ·exact hv (by rw [hf, e9])
  ·omega
 exact ⟨hh.at_.keptQ hk hh.na hh.nr, hh.new, fun x hx => Nat.lt_of_lt_of_le (hh.lt x hx) hk.size, fun x hx => key _ (hh.lt x hx) (hh.na x hx), fun r hr => ⟨key _ (hh.at_.e r hr).bl (hh.nr r hr).1, key _ (hh.at_.e r hr).il (hh.nr r hr).2⟩⟩
theorem sread_ok (G : GP) (ok : G.Ok) (gb : Nat) (l : List ClaimA) (al : Option Addr) (cl : Nat) (w : World) (hG : GroupAt w gb G) (hC : ClaimsAt w al l) (hz : wrongE G l = 0) :
  Calls Tryz.prog 92 #[.pointer (some ⟨gb, 0, none⟩), .slice al l.length cl] w fun e w' => Below w.heap.size w w' ∧ ∃ rs a c, e = .returned (.tuple #[.agg #[.pointer (some ⟨gb, 0, none⟩), .slice a rs.length c], .int .i64 0]) ∧ rs.map ClaimR.k = l ∧ SetAt G w' a rs ∧ SetNew w.heap.size a rs ∧ (∃ bl ol, al = some ⟨bl, ol, none⟩ ∧ RsP bl ol rs) :=
 (sread_any G ok gb l al cl w hG hC).mono fun _ _ h => ⟨h.1, by have h2 := h.2; rwa [if_pos hz] at h2⟩
theorem sread_bad (G : GP) (ok : G.Ok) (gb : Nat) (l : List ClaimA) (al : Option Addr) (cl : Nat) (w : World) (hG : GroupAt w gb G) (hC : ClaimsAt w al l) (hz : ¬ wrongE G l = 0) :
  Calls Tryz.prog 92 #[.pointer (some ⟨gb, 0, none⟩), .slice al l.length cl] w fun e w' => e = .returned (.tuple #[.agg #[.pointer none, .slice none 0 0], .int .i64 (wrongE G l : Int)]) ∧ Below w.heap.size w w' :=
 (sread_any G ok gb l al cl w hG hC).mono fun _ _ h => ⟨by have h2 := h.2; rwa [if_neg hz] at h2, h.1⟩
theorem infoSet : (Tryz.prog.info? 64).map (fun i => (i.zero, i.size, i.bytes)) = some (some (.agg #[.pointer none, .slice none 0 0]), 2, 32) := by kernel_rfl
def ReadSets (G : GP) (gb : Nat) (ss : List SetA) (w : World) (e : Ending) (w' : World) : Prop :=
 Below w.heap.size w w' ∧ if setsE G ss = 0 then ∃ (ts : List SetR) (a : Option Addr) (c : Nat), e = .returned (.tuple #[.slice a ts.length c, .int .i64 0]) ∧ ts.map SetR.s = ss ∧ Sl w' w'.heap.size a (ts.flatMap (SetR.cells gb)) ∧ (∀ t ∈ ts, SetAt G w' t.a t.rs ∧ SetNew w.heap.size t.a t.rs) ∧ (∀ t ∈ ts, t.Of G) ∧ (∀ x, a = some x → w.heap.size ≤ x.block) else e = .returned (.tuple #[.slice none 0 0, .int .i64 (setsE G ss : Int)])
theorem sRAll_long (gb n : Nat) (h : 16 < n) (al : Option Addr) (cl : Nat) (w : World) :
  Calls Tryz.prog 51 #[.pointer (some ⟨gb, 0, none⟩), .slice al n cl] w fun e w' => e = .returned (.tuple #[.slice none 0 0, .int .i64 3]) ∧ Below w.heap.size w w' := by
 have hd1 : decide ((n : Int) > 16) = true := by simp; omega
 clear h
 go_enter Tryz.func51, Tryz.ntmps51
 go_wp2_with fail
 go_ret2
 exact ⟨rfl, Below.refl _ _⟩
theorem sRAll_none (gb : Nat) (al : Option Addr) (cl : Nat) (w : World) :
  Calls Tryz.prog 51 #[.pointer (some ⟨gb, 0, none⟩), .slice al 0 cl] w fun e w' => e = .returned (.tuple #[.slice none 0 0, .int .i64 2]) ∧ Below w.heap.size w w' := by
 go_enter Tryz.func51, Tryz.ntmps51
 go_wp2_with fail
 go_ret2
 exact ⟨rfl, Below.refl _ _⟩
theorem sRAll_body (G : GP) (ok : G.Ok) (gb : Nat) (ss : List SetA) (n : Nat) (hn : ss.length = n) (h0 : 0 < n) (h16 : n ≤ 16) (al : Option Addr) (cl : Nat) (w : World) (hG : GroupAt w gb G) (hC : SetsAt w al ss) :
  Calls Tryz.prog 51 #[.pointer (some ⟨gb, 0, none⟩), .slice al n cl] w (ReadSets G gb ss w) := by
 have HOKC := Lib.hid (fun (l : List ClaimA) a c w hG hC (hz : wrongE G l = 0) => sread_ok G ok gb l a c w hG hC hz)
 have HBAD := Lib.hid (fun (l : List ClaimA) a c w hG hC (hz : ¬ wrongE G l = 0) => sread_bad G ok gb l a c w hG hC hz)
 have HG := Lib.hid hG
 have HC := Lib.hid hC
 have HN := Lib.hid hn
 have HSE := Lib.hid (show setsE G ss = wrongsE G ss by unfold setsE; rw [if_neg (by omega), if_neg (by omega)])
 clear ok hG hC hn
 have hd1 : decide ((n : Int) > 16) = false := by simp; omega
 have hd2 : ((n : Int) == 0) = false := by simp; omega
 go_enter Tryz.func51, Tryz.ntmps51
 go_wp2_with fail
 go_loopw [21, 6] (fun i v wr => ∃ (j : Nat) (g : Option Addr) (c9 : Nat) (ts : List SetR), j ≤ n ∧ i = .int .i64 j ∧ v = .slice g j c9 ∧ Hid (ts.map SetR.s = ss.take j) ∧ Hid (wrongsE G (ss.take j) = 0) ∧ Hid (Below w.heap.size w wr) ∧ Hid (RowO w.heap.size wr 64 2 (.slice g j c9) j (ts.flatMap (SetR.cells gb))) ∧ Hid (SetsOff G (.slice g j c9) w.heap.size wr ts) ∧ Hid (∀ t ∈ ts, t.Of G)) (fun i _ _ => n - (intOf i).toNat)
 case atStart => exact ⟨0, none, 0, [], Nat.zero_le _, rfl, rfl, rfl, rfl, Below.refl _ _, RowO.nil, Lib.hid (show SetsOff G _ _ _ [] from fun _ h => absurd h (by simp)), Lib.hid (fun _ h => absurd h (by simp))⟩
 case round =>
  obtain ⟨j, g, c9, ts, hj, rfl, rfl, HTS, HWR, HB, Hr, HSO, HOF⟩ := hrel
  have HBS := Lib.hid HB.out.size
  have HZS := HBS
  have BR := Lib.hid (Below.refl wr.heap.size wr)
  have hro := Hr.out.lt
  have HRO := Lib.hid hro
  clear hro
  by_cases hjn : j < n
  ·have hjl : j < ss.length := by rw [HN.out]; exact hjn
   obtain ⟨bl, ol, rfl, hbl0, hc⟩ := (HC.out.s.up HB.out).elem SetA.cells_len (by omega) j hjl
   have hc_0 := hc 0 _ rfl
   rw [Nat.add_zero] at hc_0
   clear hc
   rw [Nat.mul_one] at hc_0
   have HAT := Lib.hid (HC.out.one j hjl)
   have HTK := Lib.hid (List.take_succ_eq_append_getElem hjl)
   have HWN := Lib.hid (wrongsE_not (G := G) hjl HWR.out)
   have HWS := Lib.hid (wrongsE_snoc (G := G) hjl HWR.out)
   generalize ss[j] = s at *
   by_cases hz : wrongE G s.l = 0
   ·have HRD := Lib.hid (fun w h1 h2 => HOKC.out s.l s.a s.c w h1 h2 hz)
    have HWZ := Lib.hid (HWS.out hz)
    have HZ := Lib.hid hz
    clear HWN HWS hz
    go_wp2_with fail
    refine (HRD.out wr (HG.out.up HB.out) (HAT.out.up HB.out)).mono ?_
    rintro e w1 ⟨hb9, rs, a9, c8, rfl, hk9, hs9, hn9, ho9⟩
    replace Hr := Lib.hid (Hr.out.up hb9)
    replace BR := hbu BR hb9
    replace HB := hbu HB hb9
    replace HZS := sz HZS hb9.size
    have HRK := Lib.hid hk9
    clear hk9
    have HST := Lib.hid hs9
    clear hs9
    have HSN := Lib.hid hn9
    clear hn9
    have HSR := Lib.hid ho9
    clear ho9 hb9
    have HRL := Lib.hid (show 0 < rs.length by have h9 := congrArg List.length HRK.out; rw [List.length_map] at h9; rw [h9]; exact (shape_ok (wrong_ok HZ.out).1).1)
    obtain ⟨w2, hq2, hb9, hz9, Hbs⟩ := new1 w1 64 [.pointer (some ⟨gb, 0, none⟩), .slice a9 rs.length c8]
    replace Hr := Lib.hid (Hr.out.up hb9)
    replace HST := Lib.hid (HST.out.up hb9)
    replace BR := hbu BR hb9
    replace HB := hbu HB hb9
    replace HZS := sz HZS hz9.out
    clear hb9 hz9
    have bs_ := Hbs.out.c2
    have HOFF := Lib.hid (HSO.out.up BR.out)
    have HONE := Lib.hid (show SetR.Off G (.slice g j c9) w.heap.size w2 ⟨s, a9, c8, rs⟩ from ⟨HST.out, HSN.out.mono HBS.out, fun x hx => HST.out.lt HRL.out x hx, fun x hx e => by have a1 := HRO.out _ e; have a2 := HSN.out.a x hx; omega, fun r hr => ⟨fun e => by have a1 := HRO.out _ e; have a2 := HSN.out.e r hr; omega, fun e => by have a1 := HRO.out _ e; have a2 := HSN.out.e r hr; omega⟩⟩)
    clear HSO HSN HRO BR
    have HKP := Lib.hid (Kept.refl (fun q9 => Value.ownBlock (.slice g j c9) = some q9) w2)
    obtain ⟨i9, hi9, hz90, hz91, hz92⟩ := info_parts infoSet
    go_wp2_with (at_builtin; refine wpList_pushF (w.heap.size) w2 (by have g0 := HZS.out; omega) rfl _ _ 97 rfl 64 i9 _ 2 32 Tryz.underlying97 hi9 hz90 hz91 hz92 rfl (by omega) ((.slice g j c9)) (j) ((ts.flatMap (SetR.cells gb))) rfl Hr.out _ _ _ rfl rfl rfl (by simp [Value.oneCell']) (by omega) (by unfold maxLen; omega) ?_)
    intro g3 c3 w3 hown9 hg9 hf9
    clear hq2 bs_ Hbs
    have hb9 := Below.grown HB.out hg9 (by have g0 := HZS.out; omega) (fun q hq => Nat.le_trans (show w.heap.size ≤ w.heap.size by have g0 := HZS.out; omega) (Hr.out.lt q hq).1)
    clear HST
    replace HKP := Lib.hid (Kept.grown HKP.out hg9 (fun q hq => Or.inr hq))
    replace HZS := sz HZS hg9.size
    clear Hr HB
    have Hr := Lib.hid hown9
    have HB := Lib.hid hb9
    clear hb9 hown9 hg9 hi9 hz90 hz91 hz92
    have HRP := Lib.hid (fun (n9 c9 : Nat) => SetsOff.push (n := n9) (c := c9) HOFF.out HONE.out HKP.out hf9)
    go_wp2_with fail
    go_roundw
    case rel => exact ⟨j + 1, _, _, ts ++ [⟨s, a9, c8, rs⟩], by omega, by go_num, rfl, Lib.hid (by rw [List.map_append, HTS.out, HTK.out]; rfl), HWZ, HB, Hr.out.eq (by rw [List.flatMap_append]; simp [SetR.cells]) rfl, Lib.hid (HRP.out _ _), Lib.hid (fun t ht => by
     rcases List.mem_append.1 ht with h9 | h9
     ·exact HOF.out t h9
     ·rw [List.mem_singleton.1 h9]; exact ⟨HRK.out, HSR.out, HZ.out⟩)⟩
    case measure => simp [intOf]; omega
   ·have HRD := Lib.hid (fun w h1 h2 => HBAD.out s.l s.a s.c w h1 h2 hz)
    have HWZ := Lib.hid (HSE.out.trans (HWN.out hz))
    generalize wrongE G s.l = z at *
    have hd3 : ((z : Int) != 0) = true := by simp; omega
    have HZ := Lib.hid hz
    clear HWN HWS hz Hr HSO HRO BR HTS HTK HWR HOF
    go_wp2_with fail
    refine (HRD.out wr (HG.out.up HB.out) (HAT.out.up HB.out)).mono ?_
    rintro e w1 ⟨rfl, hb9⟩
    replace HB := hbu HB hb9
    replace HZS := sz HZS hb9.size
    clear hb9
    obtain ⟨w2, hq2, hb9, hz9, Hbs⟩ := new1 w1 64 [.pointer none, .slice none 0 0]
    replace HB := hbu HB hb9
    replace HZS := sz HZS hz9.out
    clear hb9 hz9
    have bs_ := Hbs.out.c2
    have f3_bs := Hbs.out.frozen
    have o3_bs_ := bs_; clear bs_
    obtain ⟨w3, hq3, hg9, hz9, hx9⟩ := put2 Hbs 0 (.pointer none) 1 (.slice none 0 0) [.pointer none, .slice none 0 0] rfl
    replace HB := hbg HB hg9 (by have g0 := HZS.out; omega)
    replace HZS := sz HZS hz9.out
    replace Hbs := hx9
    clear hx9 hg9 hz9
    have bs_ := Hbs.out.c2
    go_wp2_with fail
    clear hq3 o3_bs_ f3_bs hq2
    go_ret2
    exact ⟨HB.out, by rw [HWZ.out, if_neg HZ.out]; rfl⟩
  ·have hjn' : j = n := by omega
   subst hjn'
   have HTS2 := Lib.hid (show ts.map SetR.s = ss by have h9 := HTS.out; rwa [List.take_of_length_le (by rw [HN.out]; exact Nat.le_refl _)] at h9)
   have HW2 := Lib.hid (show setsE G ss = 0 by have h9 := HWR.out; rw [List.take_of_length_le (by rw [HN.out]; exact Nat.le_refl _)] at h9; rw [HSE.out, h9])
   have HTL := Lib.hid (show ts.length = j by have h9 := congrArg List.length HTS2.out; rwa [List.length_map, HN.out] at h9)
   clear HTS HWR HSE
   go_wp2_with fail
   go_ret2
   exact ⟨HB.out, by rw [if_pos HW2.out]; exact ⟨ts, g, c9, by rw [HTL.out]; rfl, HTS2.out, Hr.out.sl, fun t ht => ⟨(HSO.out t ht).at_, (HSO.out t ht).new⟩, HOF.out, fun x hx => RowO.own_le Hr.out hx⟩⟩
theorem sRAll_any (G : GP) (ok : G.Ok) (gb : Nat) (ss : List SetA) (al : Option Addr) (cl : Nat) (w : World) (hG : GroupAt w gb G) (hC : SetsAt w al ss) :
  Calls Tryz.prog 51 #[.pointer (some ⟨gb, 0, none⟩), .slice al ss.length cl] w (ReadSets G gb ss w) := by
 by_cases h1 : 16 < ss.length
 ·have e : setsE G ss = 3 := by unfold setsE; rw [if_pos h1]
  exact (sRAll_long gb _ h1 al cl w).mono fun _ _ h => ⟨h.2, by rw [e, if_neg (by decide)]; exact h.1⟩
 ·by_cases h2 : ss.length = 0
  ·have e : setsE G ss = 2 := by unfold setsE; rw [if_neg h1, if_pos h2]
   rw [h2]
   exact (sRAll_none gb al cl w).mono fun _ _ h => ⟨h.2, by rw [e, if_neg (by decide)]; exact h.1⟩
  ·exact sRAll_body G ok gb ss _ rfl (by omega) (by omega) al cl w hG hC
theorem stalk_any (G : GP) (gb : Nat) (label : ByteArray) (hlb : label.size < 140737488355328) (hk : G.kind < 256) (ts : List SetR) (n : Nat) (hn : ts.length = n) (h16 : n ≤ 16) (sh : ∀ t ∈ ts, t.rs.length ≤ 64 ∧ ∀ r ∈ t.rs, SayOk r.k ∧ CapOk r.k) (al : Option Addr) (cl : Nat) (w : World) (hG : GroupAt w gb G) (hS : Sl w w.heap.size al (ts.flatMap (SetR.cells gb))) (hT : ∀ t ∈ ts, SetAt G w t.a t.rs) (hC : ∀ t ∈ ts, ∀ r ∈ t.rs, r.Src w) :
  Calls Tryz.prog 52 #[.pointer (some ⟨gb, 0, none⟩), .string label, .slice al n cl] w fun e w' => ∃ tb, e = .returned (.pointer (some ⟨tb, 0, none⟩)) ∧ w.heap.size ≤ tb ∧ TalkAt w' tb (saySs (beginT eitherB label (G.kind : Int)) (ts.map fun t => t.rs.map ClaimR.k)) ∧ Below w.heap.size w w' := by
 have HF1 := Lib.hid (fun w hG => sbegin_any G gb eitherB label (by decide) hlb hk w hG)
 have HF2 := Lib.hid (fun gv tb s rs hz' h64 sh al cl w0 w hb htb hT hS hC => say_any G gv tb s rs rs.length rfl h64 hz' sh al cl w0 w hb htb hT hS hC)
 have HZ1 := Lib.hid (show (beginT eitherB label (G.kind : Int)).size = 32 from say1_size _ _ _)
 have HTK := Lib.hid (fun j (h : j < ts.length) => by
  have h1 := saySs_take (beginT eitherB label (G.kind : Int)) (ts.map fun t => t.rs.map ClaimR.k) j (by rw [List.length_map]; exact h)
  rw [List.getElem_map, ← List.map_take, ← List.map_take] at h1
  exact h1)
 unfold sayS at HTK
 have HZ2 := Lib.hid sayCl_size
 have HF := Lib.hid (fun tb s lb x hs hl hx w h => (show Calls Tryz.prog 97 #[.pointer (some ⟨tb, 0, none⟩), .string lb, .string x] w fun e w' => e = .returned (.tuple #[]) ∧ TalkAt w' tb (say1 s lb x) ∧ Kept (fun q => q = tb) w w' from Say_any tb s lb x hs hl hx w h))
 have HS1 := Lib.hid say1_size
 have HT0 := Lib.hid (show saySs (beginT eitherB label (G.kind : Int)) ([].map fun (t : SetR) => t.rs.map ClaimR.k) = beginT eitherB label (G.kind : Int) from rfl)
 generalize saySs (beginT eitherB label (G.kind : Int)) = SS at *
 generalize beginT eitherB label (G.kind : Int) = BT at *
 generalize sayCl = SC at *
 generalize say1 = S1 at *
 have HG := Lib.hid hG
 have HN := Lib.hid hn
 have HSH := Lib.hid sh
 have HS := Lib.hid hS
 have HT := Lib.hid hT
 have HC := Lib.hid hC
 clear hn sh hS hT hC hG hlb hk
 go_enter Tryz.func52, Tryz.ntmps52
 go_wp2_with fail
 refine (HF1.out w HG.out).mono ?_
 rintro e wa ⟨tb, rfl, hge, ht, hb⟩
 have HGE := Lib.hid hge
 have Ht := Lib.hid (show Bx wa tb 192 [.string BT] from ht)
 have HB := Lib.hid hb
 clear hge ht hb
 go_wp2_with fail
 go_loopw [15] (fun i wr => ∃ (j : Nat) (y : ByteArray), j ≤ n ∧ i = .int .i64 (j : Int) ∧ Hid (y.size = 32) ∧ Hid (y = SS ((ts.take j).map fun t => t.rs.map ClaimR.k)) ∧ Hid (Bx wr tb 192 [.string y]) ∧ Hid (Below w.heap.size w wr)) (fun i _ => n - (intOf i).toNat)
 case atStart => exact ⟨0, BT, Nat.zero_le _, rfl, HZ1, HT0.out.symm, Ht, HB⟩
 case round =>
  clear Ht HB
  obtain ⟨j, y, hj, rfl, HY, HYS, Ht, HB⟩ := hrel
  by_cases hjn : j < n
  ·have hjl : j < ts.length := by rw [HN.out]; exact hjn
   obtain ⟨bl, ol, rfl, hbl0, hc⟩ := (HS.out.up HB.out).elem (SetR.cells_len gb) (by omega) j hjl
   have hc_0 := hc 0 _ rfl
   rw [Nat.add_zero] at hc_0
   have hc_1 := hc 1 _ rfl
   clear hc
   have HST := Lib.hid (HT.out _ (List.getElem_mem hjl))
   have HSR := Lib.hid (HC.out _ (List.getElem_mem hjl))
   have hsh := HSH.out _ (List.getElem_mem hjl)
   have HTJ := Lib.hid (HTK.out j hjl)
   generalize ts[j] = t9 at *
   have HL64 := Lib.hid hsh.1
   have HSY := Lib.hid hsh.2
   rw [← HYS.out, List.length_map] at HTJ
   clear hsh HYS
   generalize t9.a = ta at *
   generalize t9.c = tc at *
   generalize t9.rs = rs at *
   obtain ⟨m, hm⟩ : ∃ m, rs.length = m := ⟨_, rfl⟩
   have HF3 := Lib.hid (fun s hz => HF2.out (.pointer (some ⟨gb, 0, none⟩)) tb s rs hz HL64.out HSY.out)
   rw [hm] at hc_1 HTJ HL64 HF3
   unfold kindS at HTJ
   have hm0 : (0 : Int) ≤ (m : Int) := by omega
   have hm1 : (m : Int) < 256 := by have := HL64.out; omega
   have HTL := Lib.hid Ht.out.lt
   have HM := Lib.hid hm
   clear hm HF2
   have HZS := HTL
   replace HZS := sz HZS HGE.out
   have t_ := Ht.out.c1
   have BL := Lib.hid (Below.refl wr.heap.size wr)
   have o1_t_ := t_; clear t_
   obtain ⟨w1, hq1, hb9, hz9, Hbs⟩ := new1 wr 64 [.pointer (some ⟨gb, 0, none⟩), .slice ta m tc]
   replace Ht := Lib.hid (Ht.out.up hb9)
   replace BL := hbu BL hb9
   replace HB := hbu HB hb9
   replace HZS := sz HZS hz9.out
   clear hb9 hz9
   have t_ := Ht.out.c1
   have bs_ := Hbs.out.c2
   have o2_t_ := t_; clear t_
   have o2_bs_ := bs_; clear bs_
   obtain ⟨w2, hq2, hb9, hz9, Hr⟩ := new1 w1 5 [.int .u8 (m : Int)]
   replace Ht := Lib.hid (Ht.out.up hb9)
   replace Hbs := Lib.hid (Hbs.out.up hb9)
   replace BL := hbu BL hb9
   replace HB := hbu HB hb9
   replace HZS := sz HZS hz9.out
   clear hb9 hz9
   have t_ := Ht.out.c1
   have bs_ := Hbs.out.c2
   have r_ := Hr.out.c1
   have hcv := run_convert_bytes_arg (P := Tryz.prog) w2 150 5 Tryz.underlying150 Tryz.underlying5 w1.heap.size 0 1 1 [(m : Int)] rfl (fun i hi => by
    obtain rfl : i = 0 := by omega
    exact Hr.out.cell (i := 0) rfl) 9 Tryz.underlying9
   go_wp2_with fail
   clear hq2 o2_bs_ o2_t_ hq1 o1_t_
   refine (HF.out tb y setB ⟨#[UInt8.ofNat ((m : Nat) : Int).toNat]⟩ (by have := HY.out; omega) (by decide) (show (1 : Nat) < 140737488355328 by decide) w2 Ht.out).mono ?_
   rintro e wb ⟨rfl, ht, hk⟩
   clear r_ Hr BL hcv
   have HK1 := Lib.hid hk
   have Ht1 := Lib.hid (show Bx wb tb 192 [.string (S1 y setB ⟨#[UInt8.ofNat ((m : Nat) : Int).toNat]⟩)] from ht)
   clear ht hk
   have hg9 := HK1.out
   clear t_ bs_ Ht
   replace Hbs := Lib.hid (Hbs.out.keptP hg9 (show ¬ (wr.heap.size = tb) by have g0 := HZS.out; omega))
   replace HB := Lib.hid (Below.keptP HB.out hg9 (by have g0 := HZS.out; omega) (fun q9 h9 => (show w.heap.size ≤ _ by subst h9; have g0 := HZS.out; omega)))
   replace HZS := sz HZS (show w2.heap.size ≤ wb.heap.size from hg9.size)
   clear hg9
   have bs_ := Hbs.out.c2
   have Ht := Ht1
   clear Ht1
   have t_ := Ht.out.c1
   go_wp2_with fail
   refine (HF3.out (S1 y setB ⟨#[UInt8.ofNat ((m : Nat) : Int).toNat]⟩) (HS1.out _ _ _) ta tc w wb HB.out HGE.out Ht.out HST.out HSR.out).mono ?_
   rintro e wc ⟨rfl, ht, hk⟩
   have HK2 := Lib.hid hk
   have Ht1 := Lib.hid (show Bx wc tb 192 [.string (SC (S1 y setB ⟨#[UInt8.ofNat ((m : Nat) : Int).toNat]⟩) (rs.map ClaimR.k))] from ht)
   clear ht hk
   have hg9 := HK2.out
   clear bs_ t_ Ht
   replace Hbs := Lib.hid (Hbs.out.keptP hg9 (show ¬ (wr.heap.size = tb) by have g0 := HZS.out; omega))
   replace HB := Lib.hid (Below.keptP HB.out hg9 (by have g0 := HZS.out; omega) (fun q9 h9 => (show w.heap.size ≤ _ by subst h9; have g0 := HZS.out; omega)))
   replace HZS := sz HZS (show wb.heap.size ≤ wc.heap.size from hg9.size)
   clear hg9
   have bs_ := Hbs.out.c2
   have Ht := Ht1
   clear Ht1
   go_wp2_with fail
   exact ⟨⟨j + 1, _, by omega, by go_num, Lib.hid (HZ2.out _ _ (HS1.out _ _ _)), Lib.hid HTJ.out.symm, Ht, HB⟩, by simp [intOf]; omega⟩
  ·have hj' : j = n := by omega
   subst hj'
   rw [List.take_of_length_le (by rw [HN.out]; exact Nat.le_refl _)] at HYS
   go_wp2_with fail
   go_ret
   exact ⟨tb, rfl, HGE.out, by rw [← HYS.out]; exact Ht.out, HB.out⟩
end Go.Proofs.YtdlnnkbigeiilaaGreat
namespace Go.Proofs.YtdlnnkbigeiilaaGreat
open Go.RowKit
def vanB (k : Int) (label : ByteArray) (ls : List (List ClaimA)) : ByteArray := saySs (beginT eitherB label k) ls
end Go.Proofs.YtdlnnkbigeiilaaGreat
namespace Go.Proofs.YtdlnnkbigeiilaaGreat
open Go.RowKit
def askT (s : ByteArray) : Nat → ByteArray
 | 0 => s
 | j + 1 => chT (askT s j) nonceB
theorem askT_size {s : ByteArray} (h : s.size = 32) : ∀ j, (askT s j).size = 32
 | 0 => h
 | _ + 1 => chT_size _ _
def nonceS (G : GP) (s : ByteArray) (j : Nat) : ByteArray := textS (chN (askT s j) nonceB % G.q.m) G.size
def nonceL (G : GP) (s : ByteArray) (n : Nat) : List ByteArray := (List.range n).map (nonceS G s)
theorem nonceL_len (G : GP) (s : ByteArray) (n : Nat) : (nonceL G s n).length = n := by simp [nonceL]
theorem nonceL_succ (G : GP) (s : ByteArray) (n : Nat) : nonceL G s (n + 1) = nonceL G s n ++ [nonceS G s n] := by simp [nonceL, List.range_succ]
theorem numOf_mod {G : GP} (ok : G.Ok) (N : Nat) : numOf (textS (N % G.q.m) G.size) = N % G.q.m := by
 rw [numOf_textS, Nat.mod_eq_of_lt (Nat.lt_of_lt_of_le (Nat.mod_lt _ ok.q.pos) ok.fits)]
theorem limC_text {G : GP} (ok : G.Ok) (N : Nat) : limC G.q.m (textS (N % G.q.m) G.size) = [.int .u64 (dig (mont G.q.m N) 0 : Int), .int .u64 (dig (mont G.q.m N) 1 : Int), .int .u64 (dig (mont G.q.m N) 2 : Int), .int .u64 (dig (mont G.q.m N) 3 : Int)] := by
 unfold limC
 rw [numOf_mod ok, mont_mod]
def ansF (G : GP) (N : Nat) (w x : ByteArray) : ByteArray := textS ((numOf w + N * numOf x) % G.q.m) G.size
def ansL (G : GP) (N : Nat) (ws xs : List ByteArray) : List ByteArray := List.zipWith (ansF G N) ws xs
end Go.Proofs.YtdlnnkbigeiilaaGreat
namespace Go.Proofs.YtdlnnkbigeiilaaGreat
open Go.RowKit
end Go.Proofs.YtdlnnkbigeiilaaGreat
namespace Go.Proofs.YtdlnnkbigeiilaaGreat
open Go.RowKit
structure PvS where
 t : ByteArray
 f : ByteArray
 o : Nat
section
variable (G : GP) (ls : List (List ClaimA)) (wh : Nat)
def pvL (i : Nat) : List ClaimA := ls.getD i []
def pvStep (s : PvS) (i : Nat) : PvS :=
 if i = wh then ⟨sayFi s.t (eachA G (valF G (pvL ls i) (nonceL G s.f (pvL ls i).length)) (lens (pvL ls i)) (pvL ls i).length), askT s.f (pvL ls i).length, s.o⟩
 else ⟨sayFi s.t (eachA G (valB G (G.q.m - chN s.f otherB % G.q.m) (pvL ls i) (nonceL G (chT s.f otherB) (pvL ls i).length)) (lens (pvL ls i)) (pvL ls i).length), askT (chT s.f otherB) (pvL ls i).length, s.o + chN s.f otherB % G.q.m⟩
def pvAt (s : PvS) : Nat → PvS
 | 0 => s
 | j + 1 => pvStep G ls wh (pvAt s j) j
def pvC (s : PvS) (i : Nat) : ByteArray := textS (chN (pvAt G ls wh s i).f otherB % G.q.m) G.size
def pvZ (s : PvS) (i : Nat) : List ByteArray := nonceL G (chT (pvAt G ls wh s i).f otherB) (pvL ls i).length
def pvW (s : PvS) : List ByteArray := nonceL G (pvAt G ls wh s wh).f (pvL ls wh).length
def pvN (s : PvS) (n : Nat) : Nat := chN (pvAt G ls wh s n).t challengeB + (G.q.m - (pvAt G ls wh s n).o % G.q.m)
def pvCj (s : PvS) (j : Nat) : List ByteArray := (List.range j).map fun i => if i = wh then ⟨#[]⟩ else pvC G ls wh s i
def pvAj (s : PvS) (j : Nat) : List (List ByteArray) := (List.range j).map fun i => if i = wh then [] else pvZ G ls wh s i
def pvCs (s : PvS) (n : Nat) : List ByteArray := (List.range n).map fun i => if i = wh then textS (pvN G ls wh s n % G.q.m) G.size else pvC G ls wh s i
def pvAs (s : PvS) (n : Nat) (xs : List ByteArray) : List (List ByteArray) := (List.range n).map fun i => if i = wh then ansL G (pvN G ls wh s n) (pvW G ls wh s) xs else pvZ G ls wh s i
theorem pvStep_size {s : PvS} (h : s.t.size = 32 ∧ s.f.size = 32) (i : Nat) : (pvStep G ls wh s i).t.size = 32 ∧ (pvStep G ls wh s i).f.size = 32 := by
 unfold pvStep
 split
 ·exact ⟨sayFi_size _ _ h.1, askT_size h.2 _⟩
 ·exact ⟨sayFi_size _ _ h.1, askT_size (chT_size _ _) _⟩
theorem pvAt_size {s : PvS} (h : s.t.size = 32 ∧ s.f.size = 32) : ∀ j, (pvAt G ls wh s j).t.size = 32 ∧ (pvAt G ls wh s j).f.size = 32
 | 0 => h
 | j + 1 => pvStep_size G ls wh (pvAt_size h j) j
theorem pvCj_succ (s : PvS) (j : Nat) : pvCj G ls wh s (j + 1) = pvCj G ls wh s j ++ [if j = wh then ⟨#[]⟩ else pvC G ls wh s j] := by
 unfold pvCj
 rw [List.range_succ, List.map_append]
 rfl
theorem pvAj_succ (s : PvS) (j : Nat) : pvAj G ls wh s (j + 1) = pvAj G ls wh s j ++ [if j = wh then [] else pvZ G ls wh s j] := by
 unfold pvAj
 rw [List.range_succ, List.map_append]
 rfl
theorem range_set {α : Type} (f : Nat → α) (v : α) (n i : Nat) : ((List.range n).map f).set i v = (List.range n).map fun j => if j = i then v else f j := by
 apply List.ext_getElem
 ·simp
 ·intro j h1 h2
  rw [List.getElem_set, List.getElem_map, List.getElem_map, List.getElem_range]
  by_cases h : j = i
  ·subst h; simp
  ·rw [if_neg (fun e => h e.symm), if_neg h]
theorem pvCs_eq (s : PvS) (n : Nat) : (pvCj G ls wh s n).set wh (textS (pvN G ls wh s n % G.q.m) G.size) = pvCs G ls wh s n := by
 unfold pvCj pvCs
 rw [range_set]
 refine List.map_congr_left fun i _ => ?_
 by_cases h : i = wh
 ·rw [if_pos h, if_pos h]
 ·rw [if_neg h, if_neg h, if_neg h]
theorem pvAs_eq (s : PvS) (n : Nat) (xs : List ByteArray) : (pvAj G ls wh s n).set wh (ansL G (pvN G ls wh s n) (pvW G ls wh s) xs) = pvAs G ls wh s n xs := by
 unfold pvAj pvAs
 rw [range_set]
 refine List.map_congr_left fun i _ => ?_
 by_cases h : i = wh
 ·rw [if_pos h, if_pos h]
 ·rw [if_neg h, if_neg h, if_neg h]
end
def pvT0 (k : Int) (label : ByteArray) (ls : List (List ClaimA)) (seed : ByteArray) : PvS := ⟨vanB k label ls, say1 (vanB k label ls) seedB seed, 0⟩
def pvE (k : Int) (ss : List SetA) (wh : Int) (xs : List ByteArray) : Nat :=
 if 1 ≤ k ∧ k ≤ 3 then
  (if setsE (grp k.toNat) ss ≠ 0 then setsE (grp k.toNat) ss else
  if wh < 0 ∨ (ss.length : Int) ≤ wh then 4 else
  if scE (grp k.toNat) (pvL (ss.map SetA.l) wh.toNat).length xs ≠ 0 then scE (grp k.toNat) (pvL (ss.map SetA.l) wh.toNat).length xs else
  if holdP (grp k.toNat) (pvL (ss.map SetA.l) wh.toNat) xs = true then 0 else 8)
 else 1
def EithR (er : Int) (C : List ByteArray) (A : List (List ByteArray)) (w : World) (e : Ending) (w' : World) : Prop :=
 Below w.heap.size w w' ∧ ∃ ac cc ar cr ro, e = .returned (.tuple #[.agg #[.slice ac C.length cc, .slice ar A.length cr], .int .i64 er]) ∧ Sl w' w'.heap.size ac (C.map Value.string) ∧ ro.map RowA.l = A ∧ RowsAt w' ar ro ∧ ∀ r ∈ ro, r.Ok
theorem eithR_none (er : Int) {w w' : World} (h : Below w.heap.size w w') : EithR er [] [] w (.returned (.tuple #[.agg #[.slice none 0 0, .slice none 0 0], .int .i64 er])) w' :=
 ⟨h, none, 0, none, 0, [], rfl, Or.inl rfl, rfl, ⟨Or.inl rfl, fun _ h => by cases h⟩, fun _ h => by cases h⟩
end Go.Proofs.YtdlnnkbigeiilaaGreat
namespace Go.Proofs.YtdlnnkbigeiilaaGreat
open Go.RowKit
theorem sRAll_ok (G : GP) (ok : G.Ok) (gb : Nat) (ss : List SetA) (al : Option Addr) (cl : Nat) (w : World) (hG : GroupAt w gb G) (hC : SetsAt w al ss) (hz : setsE G ss = 0) :
  Calls Tryz.prog 51 #[.pointer (some ⟨gb, 0, none⟩), .slice al ss.length cl] w fun e w' => Below w.heap.size w w' ∧ ∃ (ts : List SetR) (a : Option Addr) (c : Nat), e = .returned (.tuple #[.slice a ts.length c, .int .i64 0]) ∧ ts.map SetR.s = ss ∧ Sl w' w'.heap.size a (ts.flatMap (SetR.cells gb)) ∧ (∀ t ∈ ts, SetAt G w' t.a t.rs ∧ SetNew w.heap.size t.a t.rs) ∧ (∀ t ∈ ts, t.Of G) ∧ (∀ x, a = some x → w.heap.size ≤ x.block) :=
 (sRAll_any G ok gb ss al cl w hG hC).mono fun _ _ h => ⟨h.1, by have h2 := h.2; rwa [if_pos hz] at h2⟩
theorem sRAll_bad (G : GP) (ok : G.Ok) (gb : Nat) (ss : List SetA) (al : Option Addr) (cl : Nat) (w : World) (hG : GroupAt w gb G) (hC : SetsAt w al ss) (hz : ¬ setsE G ss = 0) :
  Calls Tryz.prog 51 #[.pointer (some ⟨gb, 0, none⟩), .slice al ss.length cl] w fun e w' => e = .returned (.tuple #[.slice none 0 0, .int .i64 (setsE G ss : Int)]) ∧ Below w.heap.size w w' :=
 (sRAll_any G ok gb ss al cl w hG hC).mono fun _ _ h => ⟨by have h2 := h.2; rwa [if_neg hz] at h2, h.1⟩
theorem read_sizes {G : GP} (ok : G.Ok) {l : List ClaimA} (hw : wrongE G l = 0) (hcap : ∀ c ∈ l, CapOk c) {rs : List ClaimR} (hk : rs.map ClaimR.k = l) :
  rs.length = l.length ∧ l.length ≤ 64 ∧ (∀ r ∈ rs, SayOk r.k ∧ CapOk r.k) ∧ (∀ r ∈ rs, r.k.bases.length ≤ 8 ∧ r.k.images.length = r.k.bases.length) ∧ ∀ c ∈ l, c.bases.length ≤ 8 := by
 obtain ⟨hsh, hel⟩ := wrong_ok hw
 have hsz := shape_ok hsh
 have hmem : ∀ r ∈ rs, r.k ∈ l := fun r hr => by rw [← hk]; exact List.mem_map.2 ⟨r, hr, rfl⟩
 refine ⟨by rw [← hk, List.length_map], hsz.2.1, fun r hr => ?_, fun r hr => ⟨(hsz.2.2 r.k (hmem r hr)).2.1, (hsz.2.2 r.k (hmem r hr)).2.2⟩, fun c hc => (hsz.2.2 c hc).2.1⟩
 have h9 := hsz.2.2 r.k (hmem r hr)
 have h8 := List.all_eq_true.1 hel r.k (hmem r hr)
 unfold cElems at h8
 rw [Bool.and_eq_true] at h8
 have hs := ok.size_le
 have hsm : ∀ s, isEl G.q.m G.size s = true → s.size ≤ 32 := fun s h => by
  unfold isEl at h
  simp only [Bool.and_eq_true, decide_eq_true_eq] at h
  omega
 exact ⟨⟨h9.2.1, by omega, fun x hx => hsm x (List.all_eq_true.1 h8.1 x hx), fun x hx => hsm x (List.all_eq_true.1 h8.2 x hx)⟩, hcap _ (hmem r hr)⟩
theorem sc_len9 {G : GP} {n : Nat} {l : List ByteArray} (h : scE G n l = 0) : l.length = n := by
 unfold scE at h
 by_cases g : l.length = n
 ·exact g
 ·rw [if_neg g] at h; cases h
theorem mont_zero9 (m : Nat) : mont m 0 = 0 := by unfold mont; simp
theorem dig_zero9 (i : Nat) : dig 0 i = 0 := by unfold dig; simp
end Go.Proofs.YtdlnnkbigeiilaaGreat
namespace Go.Proofs.YtdlnnkbigeiilaaGreat
open Go.RowKit
theorem RowO.room {N n m c size : Nat} {a : Option Addr} {w : World} {e : TypeId} {xs : List Value} (h : RowO N w e size (.slice a m c) n xs) : m ≤ c := by
 rcases h.2 with ⟨h1, _⟩ | ⟨g, cap, cur, hv, _, _, h1, _⟩
 ·cases h1; exact Nat.le_refl _
 ·cases hv; exact h1
theorem RowO.none0 {N n m c size : Nat} {a : Option Addr} {w : World} {e : TypeId} {xs : List Value} (h : RowO N w e size (.slice a m c) n xs) : a = none → c = 0 := by
 intro e
 rcases h.2 with ⟨h1, _⟩ | ⟨g, cap, cur, hv, _⟩
 ·cases h1; rfl
 ·cases hv; cases e
theorem kept_gw {b : Nat} {W w : World} (h : Kept (fun q => q = b) W w) : W.grownBy w (some b) :=
 ⟨h.os, h.tape, h.output, h.size, fun q hq hne => h.block q hq (fun e => hne (by rw [e]))⟩
theorem seeded_any (tb : Nat) (s seed : ByteArray) (hs : s.size = 32) (hd : seed.size < 140737488355328) (w : World) (hT : TalkAt w tb s) :
  Calls Tryz.prog 66 #[.pointer (some ⟨tb, 0, none⟩), .string seed] w fun e w' => ∃ fb, e = .returned (.pointer (some ⟨fb, 0, none⟩)) ∧ w.heap.size ≤ fb ∧ TalkAt w' fb (say1 s seedB seed) ∧ Below w.heap.size w w' := by
 have H1 := Lib.hid (fun w h => Fork_any tb s w h)
 have H2 := Lib.hid (fun fb w h => Say_any fb s seedB seed (by omega) (by decide) hd w h)
 unfold say1
 generalize tagS sayB [s, seedB, seed] = t at *
 have HT := Lib.hid hT
 clear hT hs hd
 go_enter Tryz.func66, Tryz.ntmps66
 go_wp2_with fail
 refine (H1.out w HT.out).mono ?_
 rintro e wa ⟨fb, rfl, hge, ht, hb⟩
 have HGE := Lib.hid hge
 have HT1 := Lib.hid ht
 have HB := Lib.hid hb
 clear hge ht hb
 go_wp2_with fail
 refine (H2.out fb wa HT1.out).mono ?_
 rintro e wb ⟨rfl, ht, hk⟩
 have HB2 := Lib.hid (Below.keptP HB.out hk HB.out.size (fun q hq => hq ▸ HGE.out))
 have HT2 := Lib.hid ht
 clear ht hk
 go_wp2_with fail
 go_ret
 exact ⟨fb, rfl, HGE.out, HT2.out, HB2.out⟩
theorem asked_any (G : GP) (ok : G.Ok) (gb tb : Nat) (a : Option Addr) (n c : Nat) (hn : n ≤ 64) (s : ByteArray) (hs : s.size = 32) (w : World) (hG : GroupAt w gb G) (hT : TalkAt w tb s) (hne : ¬ gb = tb) :
  Calls Tryz.prog 65 #[.agg #[.pointer (some ⟨gb, 0, none⟩), .slice a n c], .pointer (some ⟨tb, 0, none⟩)] w fun e w' => ∃ a' c', e = .returned (.slice a' n c') ∧ Sl w' w'.heap.size a' ((nonceL G s n).flatMap (limC G.q.m)) ∧ (∀ x, a' = some x → w.heap.size ≤ x.block) ∧ TalkAt w' tb (askT s n) ∧ Kept (fun q => q = tb) w w' := by
 have HCH := Lib.hid (fun t (ht : t.size = 32) w h1 h2 => gChallenge_any G ok gb tb t nonceB (by omega) (by decide) w h1 h2 hne)
 have HSC := Lib.hid (fun j => limC_text ok (chN (askT s j) nonceB))
 have HSU := Lib.hid (show ∀ j, (nonceL G s (j + 1)).flatMap (limC G.q.m) = (nonceL G s j).flatMap (limC G.q.m) ++ limC G.q.m (nonceS G s j) from fun j => by rw [nonceL_succ, List.flatMap_append]; simp)
 unfold nonceS at HSU
 have HAZ := Lib.hid (fun j => askT_size hs j)
 have HAS := Lib.hid (show ∀ j, askT s (j + 1) = chT (askT s j) nonceB from fun _ => rfl)
 have H0 := Lib.hid (show askT s 0 = s ∧ (nonceL G s 0).flatMap (limC G.q.m) = [] from ⟨rfl, rfl⟩)
 generalize askT s = AT at *
 generalize nonceL G s = NL at *
 generalize chN = CN at *
 generalize chT = CT at *
 have HG := Lib.hid hG
 have HGL := Lib.hid hG.lt
 have HTL := Lib.hid hT.lt
 have HT := Lib.hid (show TalkAt w tb (AT 0) from H0.out.1 ▸ hT)
 clear hG hT hs
 go_enter Tryz.func65, Tryz.ntmps65
 go_wp2_with fail
 obtain ⟨w1, hq1, hb9, hz9, Hbs⟩ := new1 w 64 [.pointer (some ⟨gb, 0, none⟩), .slice a n c]
 rw [hq1]
 clear hq1
 have HB := Lib.hid hb9
 have HZS := hz9
 clear hb9 hz9
 have bs_ := Hbs.out.c2
 have HK1 := Lib.hid ((Kept.refl (fun q => q = tb) w).up HB.out)
 have HT1 := Lib.hid (Bx.up HT.out HB.out)
 have HBS := Lib.hid Hbs.out.lt
 go_wp2_with fail
 go_loopw [9, 5] (fun i v wr => ∃ (j : Nat) (g : Option Addr) (c9 : Nat), j ≤ n ∧ i = .int .i64 (j : Int) ∧ v = .slice g j c9 ∧ Hid (TalkAt wr tb (AT j)) ∧ Hid (Bx wr w.heap.size 64 [.pointer (some ⟨gb, 0, none⟩), .slice a n c]) ∧ Hid (Kept (fun q => q = tb) w wr) ∧ Hid (RowO w1.heap.size wr 72 4 (.slice g j c9) j ((NL j).flatMap (limC G.q.m)))) (fun i _ _ => n - (intOf i).toNat)
 case atStart => exact ⟨0, none, 0, Nat.zero_le _, rfl, rfl, HT1, Hbs, HK1, by rw [H0.out.2]; exact RowO.nil⟩
 case round =>
  clear HT HT1 HK1 HB Hbs bs_
  obtain ⟨j, g, c9, hj, rfl, rfl, HT, Hbs, HK, Hr⟩ := hrel
  have HZ1 := Lib.hid HK.out.size
  have HZ2 := Lib.hid Hbs.out.lt
  by_cases hjn : j < n
  ·have bs_ := Hbs.out.c2
   go_wp2_with fail
   refine (HCH.out (AT j) (HAZ.out j) wr ((HG.out.keptP HK.out hne)) HT.out).mono ?_
   rintro e wz ⟨rfl, ht, hk⟩
   have Hbs9 := Lib.hid (Hbs.out.keptP hk (show ¬ w.heap.size = tb by have := HTL.out; omega))
   have HK9 := Lib.hid (HK.out.trans hk)
   have Hr9 := Lib.hid (Hr.out.grown (kept_gw hk) (fun q9 e8 e9 => by have a1 := (Hr.out.lt _ e8).1; have a0 := Option.some.inj e9; have := HTL.out; have := HBS.out; omega))
   have Ht := Lib.hid (show Bx wz tb 192 [.string (AT (j + 1))] from HAS.out j ▸ ht)
   have HZ3 := Lib.hid HK9.out.size
   have HZ4 := Lib.hid Ht.out.lt
   have HZ5 := Lib.hid Hbs9.out.lt
   clear ht hk Hbs HK Hr HT bs_
   have Hbs := Hbs9
   have HK := HK9
   have Hr := Hr9
   clear Hbs9 HK9 Hr9
   unfold scV limbV
   replace HZS := sz HZS HZ3.out
   replace HZS := sz HZS HZ4.out
   replace HZS := sz HZS HZ5.out
   replace HZS := sz HZS HTL.out
   replace HZS := sz HZS HBS.out
   replace HZS := sz HZS HGL.out
   have bs_ := Hbs.out.c2
   have t_ := Ht.out.c1
   obtain ⟨i9, hi9, hz90, hz91, hz92⟩ := info_parts infoScalar
   go_wp2_with (at_builtin; refine wpList_pushR (w1.heap.size) wz (by have g0 := HZS.out; omega) rfl _ _ 65 rfl 72 i9 _ 4 32 Tryz.underlying65 hi9 hz90 hz91 hz92 rfl (by omega) ((.slice g j c9)) (j) (((NL j).flatMap (limC G.q.m))) rfl Hr.out _ _ _ rfl rfl rfl (by simp [Value.oneCell']) (by omega) (by unfold maxLen; omega) ?_)
   intro g2 c2 w2 hown9 hg9
   clear bs_ t_
   replace Hbs := Lib.hid (Hbs.out.grown hg9 (fun e9 => by have a1 := Hr.out.lt _ e9; have g0 := HZS.out; omega))
   replace Ht := Lib.hid (Ht.out.grown hg9 (fun e9 => by have a1 := Hr.out.lt _ e9; have g0 := HZS.out; omega))
   replace HK := Lib.hid (Kept.grown HK.out hg9 (fun q hq => Or.inl (Nat.le_trans (show w.heap.size ≤ w1.heap.size by have g0 := HZS.out; omega) (Hr.out.lt q hq).1)))
   replace HZS := sz HZS hg9.size
   clear Hr
   have Hr := Lib.hid hown9
   clear hown9 hg9 hi9 hz90 hz91 hz92
   have bs_ := Hbs.out.c2
   have t_ := Ht.out.c1
   go_wp2_with fail
   go_roundw
   case rel => exact ⟨j + 1, _, _, hjn, by go_num, rfl, Ht, Hbs, HK, Hr.out.eq (by rw [HSU.out, HSC.out]) rfl⟩
   case measure => simp [intOf]; omega
  ·have hj' : j = n := by omega
   subst hj'
   have bs_ := Hbs.out.c2
   go_wp2_with fail
   go_ret
   exact ⟨g, c9, rfl, Hr.out.sl, fun x hx => by have := Hr.out.lt x.block (by rw [hx]; rfl); have := HBS.out; omega, HT.out, HK.out⟩
theorem ans_snoc (G : GP) (N : Nat) {ws xs : List ByteArray} {j : Nat} (h1 : j < ws.length) (h2 : j < xs.length) : ((ansL G N ws xs).take (j + 1)).map Value.string = ((ansL G N ws xs).take j).map Value.string ++ [.string (textS ((numOf ws[j] + N * numOf xs[j]) % G.q.m) G.size)] := by
 unfold ansL
 have hl : j < (List.zipWith (ansF G N) ws xs).length := by rw [List.length_zipWith]; omega
 rw [List.take_succ_eq_append_getElem hl, List.map_append, List.map_cons, List.map_nil, List.getElem_zipWith]
 rfl
theorem ansL_len (G : GP) (N : Nat) {ws xs : List ByteArray} {n : Nat} (h1 : ws.length = n) (h2 : xs.length = n) : (ansL G N ws xs).length = n := by unfold ansL; rw [List.length_zipWith, h1, h2, Nat.min_self]
theorem answers_any (G : GP) (ok : G.Ok) (gb N : Nat) (a : Option Addr) (m c : Nat) (ws xs : List ByteArray) (n : Nat) (hw : ws.length = n) (hx : xs.length = n) (hn : n ≤ 64) (aw ax : Option Addr) (cw cx : Nat) (w : World) (hG : GroupAt w gb G) (hW : Sl w w.heap.size aw (ws.flatMap (limC G.q.m))) (hX : Sl w w.heap.size ax (xs.flatMap (limC G.q.m))) :
  Calls Tryz.prog 69 #[.agg #[.pointer (some ⟨gb, 0, none⟩), .slice a m c], .slice aw n cw, scV G N, .slice ax n cx] w fun e w' => ∃ a' c', e = .returned (.slice a' n c') ∧ Sl w' w'.heap.size a' ((ansL G N ws xs).map Value.string) ∧ (∀ x, a' = some x → w.heap.size ≤ x.block) ∧ n ≤ c' ∧ (a' = none → c' = 0) ∧ Below w.heap.size w w' := by
 have OK := Lib.hid ok
 have HSN := Lib.hid (fun j h1 h2 => ans_snoc G N (ws := ws) (xs := xs) (j := j) h1 h2)
 have HAL := Lib.hid (ansL_len G N hw hx)
 generalize ansL G N ws xs = AL at *
 have HG := Lib.hid hG
 have HW := Lib.hid hW
 have HX := Lib.hid hX
 have HWN := Lib.hid hw
 have HXN := Lib.hid hx
 clear ok hG hW hX hw hx
 unfold scV limbV
 go_enter Tryz.func69, Tryz.ntmps69
 go_wp2_with fail
 obtain ⟨w1, hq1, hb9, hz9, Hbs, Hbc⟩ := new2 w 64 [.pointer (some ⟨gb, 0, none⟩), .slice a m c] 72 [.int .u64 (dig (mont G.q.m N) 0 : Int), .int .u64 (dig (mont G.q.m N) 1 : Int), .int .u64 (dig (mont G.q.m N) 2 : Int), .int .u64 (dig (mont G.q.m N) 3 : Int)]
 rw [hq1]
 clear hq1
 have HB := Lib.hid hb9
 have HZS := hz9
 clear hb9 hz9
 have bs_ := Hbs.out.c2
 have bc_ := Hbc.out.c4
 have HWZ := Lib.hid HB.out.size
 have BL := Lib.hid (Below.refl w1.heap.size w1)
 go_wp2_with fail
 go_loopw [14, 9] (fun i v wr => ∃ (j : Nat) (g : Option Addr) (c9 : Nat), j ≤ n ∧ i = .int .i64 (j : Int) ∧ v = .slice g j c9 ∧ Hid (Below w1.heap.size w1 wr) ∧ Hid (RowO w1.heap.size wr 9 1 (.slice g j c9) j ((AL.take j).map Value.string))) (fun i _ _ => n - (intOf i).toNat)
 case atStart => exact ⟨0, none, 0, Nat.zero_le _, rfl, rfl, BL, RowO.nil⟩
 case round =>
  obtain ⟨j, g, c9, hj, rfl, rfl, HL9, Hr⟩ := hrel
  have hb9 := HL9.out
  clear HL9 bs_
  replace Hbs := Lib.hid (Hbs.out.up hb9)
  clear bc_
  replace Hbc := Lib.hid (Hbc.out.up hb9)
  replace BL := hbu BL hb9
  replace HB := hbu HB hb9
  replace HZS := sz HZS hb9.size
  clear hb9
  have bs_ := Hbs.out.c2
  have bc_ := Hbc.out.c4
  by_cases hjn : j < n
  ·have hjw : j < ws.length := by rw [HWN.out]; exact hjn
   have hjx : j < xs.length := by rw [HXN.out]; exact hjn
   obtain ⟨bw, ow, rfl, hbw, hcw⟩ := HW.out.elem (limC_len _) (by omega) j hjw
   obtain ⟨bx, ox, rfl, hbx, hcx⟩ := HX.out.elem (limC_len _) (by omega) j hjx
   have hcw_0 := hcw 0 _ rfl
   rw [Nat.add_zero] at hcw_0
   have hcw_1 := hcw 1 _ rfl
   have hcw_2 := hcw 2 _ rfl
   have hcw_3 := hcw 3 _ rfl
   clear hcw
   have hcx_0 := hcx 0 _ rfl
   rw [Nat.add_zero] at hcx_0
   have hcx_1 := hcx 1 _ rfl
   have hcx_2 := hcx 2 _ rfl
   have hcx_3 := hcx 3 _ rfl
   clear hcx
   replace hcw_0 := cell_up HB.out hbw hcw_0
   replace hcw_1 := cell_up HB.out hbw hcw_1
   replace hcw_2 := cell_up HB.out hbw hcw_2
   replace hcw_3 := cell_up HB.out hbw hcw_3
   have hlw := HWZ.out
   have HNP := Lib.hid (fun q e => (Hr.out.lt q e).2)
   have HSJ := Lib.hid (HSN.out j hjw hjx)
   generalize ws[j] = x at *
   generalize xs[j] = y at *
   have o2_bs_ := bs_; clear bs_
   have o2_bc_ := bc_; clear bc_
   obtain ⟨w2, hq2, hb9, hz9, Hbn⟩ := new1 wr 72 [.int .u64 (dig (mont G.q.m (numOf x)) 0 : Int), .int .u64 (dig (mont G.q.m (numOf x)) 1 : Int), .int .u64 (dig (mont G.q.m (numOf x)) 2 : Int), .int .u64 (dig (mont G.q.m (numOf x)) 3 : Int)]
   replace Hbs := Lib.hid (Hbs.out.up hb9)
   replace Hbc := Lib.hid (Hbc.out.up hb9)
   replace Hr := Lib.hid (Hr.out.up hb9)
   replace BL := hbu BL hb9
   replace HB := hbu HB hb9
   replace HZS := sz HZS hz9.out
   clear hb9 hz9
   have bs_ := Hbs.out.c2
   have bc_ := Hbc.out.c4
   have bn_ := Hbn.out.c4
   go_wp2_with fail
   clear hq2 o2_bc_ o2_bs_
   replace hcx_0 := cell_up HB.out hbx hcx_0
   replace hcx_1 := cell_up HB.out hbx hcx_1
   replace hcx_2 := cell_up HB.out hbx hcx_2
   replace hcx_3 := cell_up HB.out hbx hcx_3
   have hbx2 := Nat.lt_of_lt_of_le hbx HB.out.size
   have HT := Lib.hid (show Below w2.heap.size w2 w2.drew from (Below.refl _ _).drew)
   have hl_bs := Hbs.out.lt
   have hl_bc := Hbc.out.lt
   have hl_bn := Hbn.out.lt
   refine wp_region_tree (fun wq9 => ∃ E : But w2 (Value.ownBlock (.slice g j c9)), wq9 = E.w) ((.qs [0, 1, 2, 3, 4, 5, 6, 7, 8, 9, 10, 11, 12] (.a 13 (.a 14 (.a 15 (.a 16 (.a 17 (.qs [18] .done)))))))) (by kernel_rfl) (by kernel_rfl) (fun _ _ d _ _ h => by cases d <;> exact h) ⟨⟨_, ((below_grown HT.out).but _)⟩, rfl⟩ ?_
   have hov_bs := fun (E : But w2 (Value.ownBlock (.slice g j c9))) o => E.cell (b := w.heap.size) o hl_bs (by intro e9; have a2 := HNP.out _ e9; have a1 := Hr.out.lt _ e9; have g0 := HZS.out; omega)
   have hov_bc := fun (E : But w2 (Value.ownBlock (.slice g j c9))) o => E.cell (b := w.heap.size + 1) o hl_bc (by intro e9; have a2 := HNP.out _ e9; have a1 := Hr.out.lt _ e9; have g0 := HZS.out; omega)
   have hov_bn := fun (E : But w2 (Value.ownBlock (.slice g j c9))) o => E.cell (b := wr.heap.size) o hl_bn (by intro e9; have a2 := HNP.out _ e9; have a1 := Hr.out.lt _ e9; have g0 := HZS.out; omega)
   have hov_bx := fun (E : But w2 (Value.ownBlock (.slice g j c9))) o => E.cell (b := bx) o hbx2 (by intro e9; have a2 := HNP.out _ e9; have a1 := Hr.out.lt _ e9; have g0 := HZS.out; omega)
   simp only [Tree.qs]
   repeat (refine tree_q rfl rfl ?_; go_big_quiet_step (fail); refine wpQuiet_nil ?_)
   refine tree_a rfl (fun K hK => ?_)
   go_simp
   refine (gMul_any G OK.out gb N (numOf y) _ (HG.out.up (below_up HB.out HT.out))).mono ?_
   rintro e w3 ⟨rfl, hb9⟩
   replace HT := Lib.hid (below_up HT.out hb9)
   replace HZS := sz HZS (show w2.heap.size ≤ w3.heap.size from HT.out.size)
   clear hb9
   refine hK _ _ ⟨⟨⟨w3, ((below_grown HT.out).but _)⟩, rfl⟩, ?_⟩
   clear hK K
   repeat (refine tree_q rfl rfl ?_; go_big_quiet_step (fail); refine wpQuiet_nil ?_)
   refine tree_a rfl (fun K hK => ?_)
   go_simp
   refine (gAdd_any G OK.out gb (numOf x) (N * numOf y) _ (HG.out.up (below_up HB.out HT.out))).mono ?_
   rintro e w4 ⟨rfl, hb9⟩
   replace HT := Lib.hid (below_up HT.out hb9)
   replace HZS := sz HZS (show w2.heap.size ≤ w4.heap.size from HT.out.size)
   clear hb9
   refine hK _ _ ⟨⟨⟨w4, ((below_grown HT.out).but _)⟩, rfl⟩, ?_⟩
   clear hK K
   repeat (refine tree_q rfl rfl ?_; go_big_quiet_step (fail); refine wpQuiet_nil ?_)
   refine tree_a rfl (fun K hK => ?_)
   go_simp
   refine (gPut_any G OK.out gb (numOf x + N * numOf y) _ (HG.out.up (below_up HB.out HT.out))).mono ?_
   rintro e w5 ⟨rfl, hb9⟩
   replace HT := Lib.hid (below_up HT.out hb9)
   replace HZS := sz HZS (show w2.heap.size ≤ w5.heap.size from HT.out.size)
   clear hb9
   refine hK _ _ ⟨⟨⟨w5, ((below_grown HT.out).but _)⟩, rfl⟩, ?_⟩
   clear hK K
   repeat (refine tree_q rfl rfl ?_; go_big_quiet_step (fail); refine wpQuiet_nil ?_)
   clear hov_bs hl_bs hov_bc hl_bc hov_bn hl_bn hov_bx
   refine tree_a rfl (fun K hK => ?_)
   go_simp
   refine hK _ _ ⟨⟨⟨_, (below_grown (HT.out.alloc HT.out.size _)).but _⟩, rfl⟩, ?_⟩
   clear hK K
   obtain ⟨i9, hi9, hz90, hz91, hz92⟩ := info_parts infoStr
   have HG1 := Lib.hid ((below_grown HT.out).but (Value.ownBlock (.slice g j c9)))
   clear bs_
   replace Hbs := Lib.hid (Hbs.out.up HT.out)
   clear bc_
   replace Hbc := Lib.hid (Hbc.out.up HT.out)
   clear bn_
   replace Hbn := Lib.hid (Hbn.out.up HT.out)
   replace Hr := Lib.hid (Hr.out.up HT.out)
   replace BL := hbu BL HT.out
   replace HB := hbu HB HT.out
   replace HZS := sz HZS HT.out.size
   refine tree_a rfl (fun K hK => ?_)
   refine step_pushR (w1.heap.size) w5 (by have g0 := HZS.out; omega) rfl _ _ 23 rfl 9 i9 _ 1 16 Tryz.underlying23 hi9 hz90 hz91 hz92 rfl (by omega) ((.slice g j c9)) (j) (((AL.take j).map Value.string)) rfl Hr.out _ _ _ rfl rfl rfl (by simp [Value.oneCell']) (by omega) (by unfold maxLen; omega) ?_
   intro g6 c6 w6 hown9 hg9
   have HGR := Lib.hid (HG1.out.trans hg9)
   have hb9 := Below.grown HB.out hg9 (by have g0 := HZS.out; omega) (fun q hq => Nat.le_trans (show w.heap.size ≤ w1.heap.size by have g0 := HZS.out; omega) (Hr.out.lt q hq).1)
   replace Hbs := Lib.hid (Hbs.out.grown hg9 (fun e9 => by have a2 := HNP.out _ e9; have a1 := Hr.out.lt _ e9; have g0 := HZS.out; omega))
   replace Hbc := Lib.hid (Hbc.out.grown hg9 (fun e9 => by have a2 := HNP.out _ e9; have a1 := Hr.out.lt _ e9; have g0 := HZS.out; omega))
   replace Hbn := Lib.hid (Hbn.out.grown hg9 (fun e9 => by have a2 := HNP.out _ e9; have a1 := Hr.out.lt _ e9; have g0 := HZS.out; omega))
   replace BL := Lib.hid (Below.grown BL.out hg9 (by have g0 := HZS.out; omega) (fun q hq => Nat.le_trans (show w1.heap.size ≤ w1.heap.size by have g0 := HZS.out; omega) (Hr.out.lt q hq).1))
   replace HZS := sz HZS hg9.size
   clear Hr HB HT HG1
   have Hr := Lib.hid hown9
   have HB := Lib.hid hb9
   clear hb9 hown9 hg9 hi9 hz90 hz91 hz92
   refine hK _ _ ⟨⟨⟨w6, HGR.out⟩, rfl⟩, ?_⟩
   clear hK K HGR
   have bs_ := Hbs.out.c2
   have bc_ := Hbc.out.c4
   have bn_ := Hbn.out.c4
   try simp only [Act.put, List.setIfInBounds_toArray, List.set_cons_succ, List.set_cons_zero]
   repeat (refine tree_q rfl rfl ?_; go_big_quiet_step (fail); refine wpQuiet_nil ?_)
   refine tree_end ?_
   go_wp2_with fail
   go_roundw
   case rel => exact ⟨j + 1, _, _, hjn, by go_num, rfl, BL, Hr.out.eq HSJ.out.symm rfl⟩
   case measure => simp [intOf]; omega
  ·have hj' : j = n := by omega
   subst hj'
   rw [List.take_of_length_le (by rw [HAL.out]; exact Nat.le_refl _)] at Hr
   go_wp2_with fail
   go_ret
   exact ⟨g, c9, rfl, Hr.out.sl, fun x hx => by have h1 := Hr.out.lt x.block (by rw [hx]; rfl); have h2 := HWZ.out; omega, RowO.room Hr.out, RowO.none0 Hr.out, HB.out⟩
end Go.Proofs.YtdlnnkbigeiilaaGreat
namespace Go.Proofs.YtdlnnkbigeiilaaGreat
open Go.RowKit
theorem sPany_none (k : Int) (hk : ¬ (1 ≤ k ∧ k ≤ 3)) (label seed : ByteArray) (v u : Value) (wh : Int) (w : World) :
  Calls Tryz.prog 17 #[.int .i64 k, .string label, v, .int .i64 wh, u, .string seed] w (EithR 1 [] [] w) := by
 go_enter Tryz.func17, Tryz.ntmps17
 go_wp2_with fail
 obtain ⟨w1, hq1, hb9, hz9, Hout⟩ := new1 w 30 [.slice none 0 0, .slice none 0 0]
 rw [hq1]
 clear hq1
 have HB := Lib.hid hb9
 have HZS := hz9
 clear hb9 hz9
 have out_ := Hout.out.c2
 go_wp2_with fail
 refine (of_none k hk _).mono ?_
 rintro e w2 ⟨rfl, rfl⟩
 have f2_out := Hout.out.frozen
 have o2_out_ := out_; clear out_
 obtain ⟨w2, hq2, hg9, hz9, hx9⟩ := put2 Hout 0 (.slice none 0 0) 1 (.slice none 0 0) [.slice none 0 0, .slice none 0 0] rfl
 replace HB := hbg HB hg9 (by have g0 := HZS.out; omega)
 replace HZS := sz HZS hz9.out
 replace Hout := hx9
 clear hx9 hg9 hz9
 have out_ := Hout.out.c2
 go_wp2_with fail
 clear hq2 o2_out_ f2_out
 simp [bodyPost, results, Tryz.results17, go_sem, out_]
 exact eithR_none _ HB.out
theorem sPany_bad (k : Nat) (h1 : 1 ≤ k) (h3 : k ≤ 3) (label seed : ByteArray) (ss : List SetA) (n : Nat) (hn : ss.length = n) (al : Option Addr) (cl : Nat) (hz : ¬ setsE (grp k) ss = 0) (u : Value) (wh : Int) (w : World) (hC : SetsAt w al ss) :
  Calls Tryz.prog 17 #[.int .i64 (k : Int), .string label, .slice al n cl, .int .i64 wh, u, .string seed] w (EithR (setsE (grp k) ss : Int) [] [] w) := by
 have HBAD := Lib.hid (fun gb w hG hC => sRAll_bad (grp k) (grp_ok k h1 h3) gb ss al cl w hG hC hz)
 rw [hn] at HBAD
 have HC := Lib.hid hC
 obtain ⟨z, hz9⟩ : ∃ z, setsE (grp k) ss = z := ⟨_, rfl⟩
 rw [hz9] at HBAD hz ⊢
 have hd3 : ((z : Int) != 0) = true := by simp; omega
 clear hC hn hz hz9
 go_enter Tryz.func17, Tryz.ntmps17
 go_wp2_with fail
 obtain ⟨w1, hq1, hb9, hz9, Hout⟩ := new1 w 30 [.slice none 0 0, .slice none 0 0]
 rw [hq1]
 clear hq1
 have HB := Lib.hid hb9
 have HZS := hz9
 clear hb9 hz9
 have out_ := Hout.out.c2
 go_wp2_with fail
 refine (of_some k h1 h3 w1).mono ?_
 rintro e w2 ⟨rfl, hg9, hb9⟩
 clear out_
 replace Hout := Lib.hid (Hout.out.up hb9)
 replace HB := hbu HB hb9
 replace HZS := sz HZS hb9.size
 have HG := Lib.hid hg9
 clear hg9 hb9
 have out_ := Hout.out.c2
 go_wp2_with fail
 refine (HBAD.out _ w2 HG.out (HC.out.up HB.out)).mono ?_
 rintro e w3 ⟨rfl, hb9⟩
 clear out_
 replace Hout := Lib.hid (Hout.out.up hb9)
 replace HG := Lib.hid (HG.out.up hb9)
 replace HB := hbu HB hb9
 replace HZS := sz HZS hb9.size
 clear hb9
 have out_ := Hout.out.c2
 have f4_out := Hout.out.frozen
 have o4_out_ := out_; clear out_
 obtain ⟨w4, hq4, hg9, hz9, hx9⟩ := put2 Hout 0 (.slice none 0 0) 1 (.slice none 0 0) [.slice none 0 0, .slice none 0 0] rfl
 replace HG := Lib.hid (HG.out.grown hg9.out (sne (by have g0 := HZS.out; omega)))
 replace HB := hbg HB hg9 (by have g0 := HZS.out; omega)
 replace HZS := sz HZS hz9.out
 replace Hout := hx9
 clear hx9 hg9 hz9
 have out_ := Hout.out.c2
 go_wp2_with fail
 clear hq4 o4_out_ f4_out
 simp [bodyPost, results, Tryz.results17, go_sem, out_]
 exact eithR_none _ HB.out
theorem sPany_range (k : Nat) (h1 : 1 ≤ k) (h3 : k ≤ 3) (label seed : ByteArray) (ss : List SetA) (n : Nat) (hn : ss.length = n) (al : Option Addr) (cl : Nat) (hz : setsE (grp k) ss = 0) (u : Value) (wh : Int) (hw : wh < 0 ∨ (n : Int) ≤ wh) (w : World) (hC : SetsAt w al ss) :
  Calls Tryz.prog 17 #[.int .i64 (k : Int), .string label, .slice al n cl, .int .i64 wh, u, .string seed] w (EithR 4 [] [] w) := by
 have HRD := Lib.hid (fun gb w hG hC => sRAll_ok (grp k) (grp_ok k h1 h3) gb ss al cl w hG hC hz)
 rw [hn] at HRD
 have HC := Lib.hid hC
 have HN := Lib.hid hn
 clear hC hn hz
 by_cases hw0 : wh < 0
 ·have hd1 : decide (wh < 0) = true := decide_eq_true hw0
  clear hw hw0
  go_enter Tryz.func17, Tryz.ntmps17
  go_wp2_with fail
  obtain ⟨w1, hq1, hb9, hz9, Hout⟩ := new1 w 30 [.slice none 0 0, .slice none 0 0]
  rw [hq1]
  clear hq1
  have HB := Lib.hid hb9
  have HZS := hz9
  clear hb9 hz9
  have out_ := Hout.out.c2
  go_wp2_with fail
  refine (of_some k h1 h3 w1).mono ?_
  rintro e w2 ⟨rfl, hg9, hb9⟩
  clear out_
  replace Hout := Lib.hid (Hout.out.up hb9)
  replace HB := hbu HB hb9
  replace HZS := sz HZS hb9.size
  have HG := Lib.hid hg9
  clear hg9 hb9
  have out_ := Hout.out.c2
  go_wp2_with fail
  refine (HRD.out _ w2 HG.out (HC.out.up HB.out)).mono ?_
  rintro e w3 ⟨hb9, ts, a9, c9, rfl, hts, _⟩
  clear out_
  replace Hout := Lib.hid (Hout.out.up hb9)
  replace HG := Lib.hid (HG.out.up hb9)
  replace HB := hbu HB hb9
  replace HZS := sz HZS hb9.size
  have HTS := Lib.hid hts
  clear hts hb9
  have out_ := Hout.out.c2
  rw [show ts.length = n by rw [← HN.out, ← HTS.out, List.length_map]]
  have f4_out := Hout.out.frozen
  have o4_out_ := out_; clear out_
  obtain ⟨w4, hq4, hg9, hz9, hx9⟩ := put2 Hout 0 (.slice none 0 0) 1 (.slice none 0 0) [.slice none 0 0, .slice none 0 0] rfl
  replace HG := Lib.hid (HG.out.grown hg9.out (sne (by have g0 := HZS.out; omega)))
  replace HB := hbg HB hg9 (by have g0 := HZS.out; omega)
  replace HZS := sz HZS hz9.out
  replace Hout := hx9
  clear hx9 hg9 hz9
  have out_ := Hout.out.c2
  go_wp2_with fail
  clear hq4 o4_out_ f4_out
  simp [bodyPost, results, Tryz.results17, go_sem, out_]
  exact eithR_none _ HB.out
 ·have hd1 : decide (wh < 0) = false := decide_eq_false hw0
  have hd2 : decide (wh ≥ (n : Int)) = true := decide_eq_true (by omega)
  clear hw hw0
  go_enter Tryz.func17, Tryz.ntmps17
  go_wp2_with fail
  obtain ⟨w1, hq1, hb9, hz9, Hout⟩ := new1 w 30 [.slice none 0 0, .slice none 0 0]
  rw [hq1]
  clear hq1
  have HB := Lib.hid hb9
  have HZS := hz9
  clear hb9 hz9
  have out_ := Hout.out.c2
  go_wp2_with fail
  refine (of_some k h1 h3 w1).mono ?_
  rintro e w2 ⟨rfl, hg9, hb9⟩
  clear out_
  replace Hout := Lib.hid (Hout.out.up hb9)
  replace HB := hbu HB hb9
  replace HZS := sz HZS hb9.size
  have HG := Lib.hid hg9
  clear hg9 hb9
  have out_ := Hout.out.c2
  go_wp2_with fail
  refine (HRD.out _ w2 HG.out (HC.out.up HB.out)).mono ?_
  rintro e w3 ⟨hb9, ts, a9, c9, rfl, hts, _⟩
  clear out_
  replace Hout := Lib.hid (Hout.out.up hb9)
  replace HG := Lib.hid (HG.out.up hb9)
  replace HB := hbu HB hb9
  replace HZS := sz HZS hb9.size
  have HTS := Lib.hid hts
  clear hts hb9
  have out_ := Hout.out.c2
  rw [show ts.length = n by rw [← HN.out, ← HTS.out, List.length_map]]
  have f4_out := Hout.out.frozen
  have o4_out_ := out_; clear out_
  obtain ⟨w4, hq4, hg9, hz9, hx9⟩ := put2 Hout 0 (.slice none 0 0) 1 (.slice none 0 0) [.slice none 0 0, .slice none 0 0] rfl
  replace HG := Lib.hid (HG.out.grown hg9.out (sne (by have g0 := HZS.out; omega)))
  replace HB := hbg HB hg9 (by have g0 := HZS.out; omega)
  replace HZS := sz HZS hz9.out
  replace Hout := hx9
  clear hx9 hg9 hz9
  have out_ := Hout.out.c2
  go_wp2_with fail
  clear hq4 o4_out_ f4_out
  simp [bodyPost, results, Tryz.results17, go_sem, out_]
  exact eithR_none _ HB.out
theorem rows_map (ro : List RowA) : ro.flatMap RowA.cells = ro.map fun r => Value.slice r.a r.l.length r.c := by
 induction ro with
 | nil => rfl
 | cons r ro ih => rw [List.flatMap_cons, List.map_cons, ih]; rfl
theorem rows_set (ro : List RowA) (i : Nat) (r : RowA) : (ro.set i r).flatMap RowA.cells = (ro.flatMap RowA.cells).set i (.slice r.a r.l.length r.c) := by
 rw [rows_map, rows_map, List.map_set]
theorem Kept.transP {P Q : Nat → Prop} {w0 w w2 : World} (h : Kept P w0 w) (h1 : Kept Q w w2) (hq : ∀ q, Q q → P q) : Kept P w0 w2 :=
 ⟨h1.os.trans h.os, h1.tape.trans h.tape, h1.output.trans h.output, Nat.le_trans h.size h1.size, fun q hlt hne => (h1.block q (Nat.lt_of_lt_of_le hlt h.size) (fun e => hne (hq q e))).trans (h.block q hlt hne)⟩
theorem RowsNew.keptN {N : Nat} {w w1 : World} {ro : List RowA} (h : RowsNew N w ro) (hk : Kept (fun q => q < N) w w1) : RowsNew N w1 ro := fun r hr =>
 let ⟨h1, h2, h3⟩ := h r hr
 ⟨Sl.kept h1 hk (fun x hx e => by have := h2 x hx; have e : x.block < N := e; omega), h2, h3⟩
def NonN (N : Nat) (w : World) (b : Prop) (m n : Nat) (W : List ByteArray) (v : Value) : Prop := b → ∃ a c, v = .slice a n c ∧ Sl w w.heap.size a (W.flatMap (limC m)) ∧ ∀ x, a = some x → N ≤ x.block
theorem NonN.keptN {N m n : Nat} {w w1 : World} {b : Prop} {W : List ByteArray} {v : Value} (h : NonN N w b m n W v) (hk : Kept (fun q => q < N) w w1) : NonN N w1 b m n W v := fun hb =>
 let ⟨a, c, h1, h2, h3⟩ := h hb
 ⟨a, c, h1, Sl.kept h2 hk (fun x hx e => by have := h3 x hx; have e : x.block < N := e; omega), h3⟩
theorem madeCells_eq (z : Value) (n : Nat) : madeCells #[z] n = (List.replicate n z).toArray := by
 apply Array.ext
 ·simp [madeCells]
 ·intro i h1 h2
  simp [madeCells, Nat.mod_one]
theorem sPany_sc (k : Nat) (h1 : 1 ≤ k) (h3 : k ≤ 3) (label seed : ByteArray) (ss : List SetA) (n : Nat) (hn : ss.length = n) (al : Option Addr) (cl : Nat) (hz : setsE (grp k) ss = 0) (hcap : ∀ s ∈ ss, ∀ c ∈ s.l, CapOk c) (wh : Nat) (hwn : wh < n) (xs : List ByteArray) (ax : Option Addr) (cx : Nat) (hm : xs.length ≤ 8796093022207) (z : Nat) (hz2 : scE (grp k) (pvL (ss.map SetA.l) wh).length xs = z) (hz0 : ¬ z = 0) (w : World) (hC : SetsAt w al ss) (hS : Sl w w.heap.size ax (xs.map Value.string)) :
  Calls Tryz.prog 17 #[.int .i64 (k : Int), .string label, .slice al n cl, .int .i64 (wh : Int), .slice ax xs.length cx, .string seed] w (EithR (z : Int) [] [] w) := by
 have OK := Lib.hid (grp_ok k h1 h3)
 have HRD := Lib.hid (fun gb w hG hC => sRAll_ok (grp k) OK.out gb ss al cl w hG hC hz)
 rw [hn] at HRD
 have HC := Lib.hid hC
 have HS := Lib.hid hS
 have HN := Lib.hid hn
 have HZE := Lib.hid (setsE_ok hz)
 have h16 : n ≤ 16 := by have := HZE.out.2.1; omega
 have HSS := Lib.hid (fun s hs => (show (∀ c ∈ s.l, CapOk c) ∧ wrongE (grp k) s.l = 0 from ⟨hcap s hs, wrongsE_all HZE.out.2.2 s hs⟩))
 have HSC := Lib.hid (fun gb a c m (hm : m = (pvL (ss.map SetA.l) wh).length) w1 hG hS => (show Calls Tryz.prog 53 #[.agg #[.pointer (some ⟨gb, 0, none⟩), .slice a m c], .slice ax xs.length cx] w1 (ScalQ (grp k) z xs w1) from by
  have h := scalars_any (grp k) OK.out gb m a c xs ax cx (by assumption) w1 hG hS
  unfold ScalR at h
  rw [hm, hz2] at h
  rw [hm]
  exact h))
 unfold ScalQ at HSC
 have hd1 : decide ((wh : Int) < 0) = false := decide_eq_false (by omega)
 have hd2 : decide ((wh : Int) ≥ (n : Int)) = false := decide_eq_false (by omega)
 have hd3 : ((z : Int) != 0) = true := by simp; omega
 clear hC hS hn hz hcap hm hz2 hz0
 go_enter Tryz.func17, Tryz.ntmps17
 go_wp2_with fail
 obtain ⟨w1, hq1, hb9, hz9, Hout⟩ := new1 w 30 [.slice none 0 0, .slice none 0 0]
 rw [hq1]
 clear hq1
 have HB := Lib.hid hb9
 have HZS := hz9
 clear hb9 hz9
 have out_ := Hout.out.c2
 go_wp2_with fail
 refine (of_some k h1 h3 w1).mono ?_
 rintro e w2 ⟨rfl, hg9, hb9⟩
 clear out_
 replace Hout := Lib.hid (Hout.out.up hb9)
 replace HB := hbu HB hb9
 replace HZS := sz HZS hb9.size
 have HG := Lib.hid hg9
 clear hg9 hb9
 have out_ := Hout.out.c2
 go_wp2_with fail
 refine (HRD.out _ w2 HG.out (HC.out.up HB.out)).mono ?_
 rintro e w3 ⟨hb9, ts, a9, c9, rfl, hts, hsl, hat, hof, hfr⟩
 clear out_
 replace Hout := Lib.hid (Hout.out.up hb9)
 replace HG := Lib.hid (HG.out.up hb9)
 replace HB := hbu HB hb9
 replace HZS := sz HZS hb9.size
 have HTS := Lib.hid hts
 clear hts
 have HSL := Lib.hid hsl
 clear hsl
 have HAT := Lib.hid hat
 clear hat
 have HOF := Lib.hid hof
 clear hof hb9
 have out_ := Hout.out.c2
 have HTL := Lib.hid (show ts.length = n by rw [← HN.out, ← HTS.out, List.length_map])
 rw [HTL.out]
 clear HRD hfr
 have BQ := Lib.hid (Below.refl w3.heap.size w3)
 have HG5 := HG
 have HB5 := HB
 have HGL := Lib.hid (show w1.heap.size < w3.heap.size from HG.out.lt)
 have hjt : wh < ts.length := by rw [HTL.out]; exact hwn
 have hjs : wh < ss.length := by rw [HN.out]; exact hwn
 obtain ⟨bl, ol, rfl, hbl0, hc⟩ := HSL.out.elem (SetR.cells_len w1.heap.size) (by omega) wh hjt
 have hc_0 := hc 0 _ rfl
 rw [Nat.add_zero] at hc_0
 have hc_1 := hc 1 _ rfl
 clear hc
 have HSJ := Lib.hid (show ts[wh].s = ss[wh] by
  have h8 : (ts.map SetR.s)[wh]? = ss[wh]? := by rw [HTS.out]
  rw [List.getElem?_map, List.getElem?_eq_getElem hjt, List.getElem?_eq_getElem hjs] at h8
  exact Option.some.inj h8)
 have HST := Lib.hid (HAT.out _ (List.getElem_mem hjt)).1
 have HOJ := HOF.out _ (List.getElem_mem hjt)
 have HSZ := Lib.hid (read_sizes OK.out HOJ.w (HSS.out _ (by rw [HSJ.out]; exact List.getElem_mem hjs)).1 HOJ.k)
 have HKW := Lib.hid (show ts[wh].rs.map ClaimR.k = pvL (ss.map SetA.l) wh by unfold pvL; rw [HOJ.k, HSJ.out, List.getD_eq_getElem?_getD, List.getElem?_map, List.getElem?_eq_getElem hjs]; rfl)
 clear HOJ hjs HSJ
 obtain ⟨tw, htw⟩ : ∃ t, ts[wh]'hjt = t := ⟨_, rfl⟩
 rw [htw] at hc_1 HST HSZ HKW
 clear htw hjt
 have HLW := Lib.hid (show tw.rs.length = (pvL (ss.map SetA.l) wh).length by rw [← HKW.out, List.length_map])
 have HCW0 := Lib.hid hc_0
 have HCW1 := Lib.hid hc_1
 have HBL0 := Lib.hid hbl0
 have hjw := hwn
 go_wp2_with fail
 refine (HSC.out w1.heap.size tw.a tw.c tw.rs.length HLW.out w3 (HG5.out.up BQ.out) (HS.out.up HB.out)).mono ?_
 rintro e w4 ⟨hb9, v, rfl, hv9⟩
 clear out_
 replace Hout := Lib.hid (Hout.out.up hb9)
 replace HG := Lib.hid (HG.out.up hb9)
 replace BQ := hbu BQ hb9
 replace HB := hbu HB hb9
 replace HZS := sz HZS hb9.size
 have HVV := Lib.hid hv9
 clear hv9 hb9
 have out_ := Hout.out.c2
 clear BQ
 have f5_out := Hout.out.frozen
 have o5_out_ := out_; clear out_
 obtain ⟨w5, hq5, hg9, hz9, hx9⟩ := put2 Hout 0 (.slice none 0 0) 1 (.slice none 0 0) [.slice none 0 0, .slice none 0 0] rfl
 replace HG := Lib.hid (HG.out.grown hg9.out (sne (by have g0 := HZS.out; omega)))
 replace HB := hbg HB hg9 (by have g0 := HZS.out; omega)
 replace HZS := sz HZS hz9.out
 replace Hout := hx9
 clear hx9 hg9 hz9
 have out_ := Hout.out.c2
 go_wp2_with fail
 clear hq5 o5_out_ f5_out
 simp [bodyPost, results, Tryz.results17, go_sem, out_]
 exact eithR_none _ HB.out
theorem sPany_hold (k : Nat) (h1 : 1 ≤ k) (h3 : k ≤ 3) (label seed : ByteArray) (ss : List SetA) (n : Nat) (hn : ss.length = n) (al : Option Addr) (cl : Nat) (hz : setsE (grp k) ss = 0) (hcap : ∀ s ∈ ss, ∀ c ∈ s.l, CapOk c) (wh : Nat) (hwn : wh < n) (xs : List ByteArray) (ax : Option Addr) (cx : Nat) (hm : xs.length ≤ 8796093022207) (hz2 : scE (grp k) (pvL (ss.map SetA.l) wh).length xs = 0) (hhp : holdP (grp k) (pvL (ss.map SetA.l) wh) xs = false) (w : World) (hC : SetsAt w al ss) (hS : Sl w w.heap.size ax (xs.map Value.string)) :
  Calls Tryz.prog 17 #[.int .i64 (k : Int), .string label, .slice al n cl, .int .i64 (wh : Int), .slice ax xs.length cx, .string seed] w (EithR 8 [] [] w) := by
 have OK := Lib.hid (grp_ok k h1 h3)
 have HRD := Lib.hid (fun gb w hG hC => sRAll_ok (grp k) OK.out gb ss al cl w hG hC hz)
 rw [hn] at HRD
 have HC := Lib.hid hC
 have HS := Lib.hid hS
 have HN := Lib.hid hn
 have HZE := Lib.hid (setsE_ok hz)
 have h16 : n ≤ 16 := by have := HZE.out.2.1; omega
 have HSS := Lib.hid (fun s hs => (show (∀ c ∈ s.l, CapOk c) ∧ wrongE (grp k) s.l = 0 from ⟨hcap s hs, wrongsE_all HZE.out.2.2 s hs⟩))
 have HXL := Lib.hid (sc_len9 hz2)
 have HSC := Lib.hid (fun gb a c m (hm9 : m = (pvL (ss.map SetA.l) wh).length) w1 hG hS => (show Calls Tryz.prog 53 #[.agg #[.pointer (some ⟨gb, 0, none⟩), .slice a m c], .slice ax xs.length cx] w1 (ScalQ (grp k) 0 xs w1) from by
  have h := scalars_any (grp k) OK.out gb m a c xs ax cx hm w1 hG hS
  unfold ScalR at h
  rw [hm9, hz2] at h
  rw [hm9]
  exact h))
 unfold ScalQ at HSC
 have HHB := Lib.hid hhp
 have hd1 : decide ((wh : Int) < 0) = false := decide_eq_false (by omega)
 have hd2 : decide ((wh : Int) ≥ (n : Int)) = false := decide_eq_false (by omega)
 clear hC hS hn hz hcap hm hz2 hhp
 go_enter Tryz.func17, Tryz.ntmps17
 go_wp2_with fail
 obtain ⟨w1, hq1, hb9, hz9, Hout⟩ := new1 w 30 [.slice none 0 0, .slice none 0 0]
 rw [hq1]
 clear hq1
 have HB := Lib.hid hb9
 have HZS := hz9
 clear hb9 hz9
 have out_ := Hout.out.c2
 go_wp2_with fail
 refine (of_some k h1 h3 w1).mono ?_
 rintro e w2 ⟨rfl, hg9, hb9⟩
 clear out_
 replace Hout := Lib.hid (Hout.out.up hb9)
 replace HB := hbu HB hb9
 replace HZS := sz HZS hb9.size
 have HG := Lib.hid hg9
 clear hg9 hb9
 have out_ := Hout.out.c2
 go_wp2_with fail
 refine (HRD.out _ w2 HG.out (HC.out.up HB.out)).mono ?_
 rintro e w3 ⟨hb9, ts, a9, c9, rfl, hts, hsl, hat, hof, hfr⟩
 clear out_
 replace Hout := Lib.hid (Hout.out.up hb9)
 replace HG := Lib.hid (HG.out.up hb9)
 replace HB := hbu HB hb9
 replace HZS := sz HZS hb9.size
 have HTS := Lib.hid hts
 clear hts
 have HSL := Lib.hid hsl
 clear hsl
 have HAT := Lib.hid hat
 clear hat
 have HOF := Lib.hid hof
 clear hof hb9
 have out_ := Hout.out.c2
 have HTL := Lib.hid (show ts.length = n by rw [← HN.out, ← HTS.out, List.length_map])
 rw [HTL.out]
 clear HRD hfr
 have BQ := Lib.hid (Below.refl w3.heap.size w3)
 have HG5 := HG
 have HB5 := HB
 have HGL := Lib.hid (show w1.heap.size < w3.heap.size from HG.out.lt)
 have hjt : wh < ts.length := by rw [HTL.out]; exact hwn
 have hjs : wh < ss.length := by rw [HN.out]; exact hwn
 obtain ⟨bl, ol, rfl, hbl0, hc⟩ := HSL.out.elem (SetR.cells_len w1.heap.size) (by omega) wh hjt
 have hc_0 := hc 0 _ rfl
 rw [Nat.add_zero] at hc_0
 have hc_1 := hc 1 _ rfl
 clear hc
 have HSJ := Lib.hid (show ts[wh].s = ss[wh] by
  have h8 : (ts.map SetR.s)[wh]? = ss[wh]? := by rw [HTS.out]
  rw [List.getElem?_map, List.getElem?_eq_getElem hjt, List.getElem?_eq_getElem hjs] at h8
  exact Option.some.inj h8)
 have HST := Lib.hid (HAT.out _ (List.getElem_mem hjt)).1
 have HOJ := HOF.out _ (List.getElem_mem hjt)
 have HSZ := Lib.hid (read_sizes OK.out HOJ.w (HSS.out _ (by rw [HSJ.out]; exact List.getElem_mem hjs)).1 HOJ.k)
 have HKW := Lib.hid (show ts[wh].rs.map ClaimR.k = pvL (ss.map SetA.l) wh by unfold pvL; rw [HOJ.k, HSJ.out, List.getD_eq_getElem?_getD, List.getElem?_map, List.getElem?_eq_getElem hjs]; rfl)
 clear HOJ hjs HSJ
 obtain ⟨tw, htw⟩ : ∃ t, ts[wh]'hjt = t := ⟨_, rfl⟩
 rw [htw] at hc_1 HST HSZ HKW
 clear htw hjt
 have HLW := Lib.hid (show tw.rs.length = (pvL (ss.map SetA.l) wh).length by rw [← HKW.out, List.length_map])
 have HCW0 := Lib.hid hc_0
 have HCW1 := Lib.hid hc_1
 have HBL0 := Lib.hid hbl0
 have HRX := Lib.hid (show tw.rs.length = xs.length by rw [HLW.out, HXL.out])
 rw [HRX.out] at hc_1 HCW1
 have hjw := hwn
 go_wp2_with fail
 refine (HSC.out w1.heap.size tw.a tw.c xs.length HXL.out w3 (HG5.out.up BQ.out) (HS.out.up HB.out)).mono ?_
 rintro e w4 ⟨hb9, v, rfl, hv9⟩
 clear out_
 replace Hout := Lib.hid (Hout.out.up hb9)
 replace HG := Lib.hid (HG.out.up hb9)
 replace BQ := hbu BQ hb9
 replace HB := hbu HB hb9
 replace HZS := sz HZS hb9.size
 clear hb9
 have out_ := Hout.out.c2
 obtain ⟨a7, c7, rfl, hsv, hfv⟩ := hv9 trivial
 have HSV := Lib.hid hsv
 clear hc_0 hc_1 hsv hfv hv9
 have BS7 := Lib.hid (Below.refl w4.heap.size w4)
 have hc_0 := (BQ.out.cell (p := ⟨bl, ol + wh * 2, none⟩) HBL0.out).trans HCW0.out
 have hc_1 := (BQ.out.cell (p := ⟨bl, ol + wh * 2 + 1, none⟩) HBL0.out).trans HCW1.out
 go_wp2_with fail
 refine (holds_any (grp k) OK.out w1.heap.size tw.rs xs.length HRX.out tw.a tw.c xs rfl a7 c7 (by have h9 := HSZ.out.1; have h8 := HSZ.out.2.1; have h7 := HRX.out; omega) HSZ.out.2.2.2.1 false (by rw [HKW.out]; exact HHB.out) w4 (HG5.out.up BQ.out) (HST.out.up BQ.out) (HSV.out.up BS7.out)).mono ?_
 rintro e w5 ⟨rfl, hb9⟩
 clear out_
 replace Hout := Lib.hid (Hout.out.up hb9)
 replace HG := Lib.hid (HG.out.up hb9)
 replace BQ := hbu BQ hb9
 replace BS7 := hbu BS7 hb9
 replace HB := hbu HB hb9
 replace HZS := sz HZS hb9.size
 clear hb9
 have out_ := Hout.out.c2
 clear hc_0 hc_1 BQ BS7
 have f6_out := Hout.out.frozen
 have o6_out_ := out_; clear out_
 obtain ⟨w6, hq6, hg9, hz9, hx9⟩ := put2 Hout 0 (.slice none 0 0) 1 (.slice none 0 0) [.slice none 0 0, .slice none 0 0] rfl
 replace HG := Lib.hid (HG.out.grown hg9.out (sne (by have g0 := HZS.out; omega)))
 replace HB := hbg HB hg9 (by have g0 := HZS.out; omega)
 replace HZS := sz HZS hz9.out
 replace Hout := hx9
 clear hx9 hg9 hz9
 have out_ := Hout.out.c2
 go_wp2_with fail
 clear hq6 o6_out_ f6_out
 simp [bodyPost, results, Tryz.results17, go_sem, out_]
 exact eithR_none _ HB.out
end Go.Proofs.YtdlnnkbigeiilaaGreat
