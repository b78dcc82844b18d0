/- TrustShares: any need of the shares give the secret. Condition: no more in hand than the small bound of the row allows. -/
import Derived.Test.YtjmeakfjfpnciaaZTrustShares4
import Derived.Outline
import Derived.ChangeMaps

set_option maxRecDepth 100000
set_option maxHeartbeats 4000000
set_option linter.unusedVariables false
set_option linter.unusedSimpArgs false
namespace Go.Proofs.Ytjmeakfjfpnciaa
open Go.RowKit
theorem pub_none (k : Int) (hk : ¬ (1 ≤ k ∧ k ≤ 3)) (x : ByteArray) (w : World) : Calls Try.prog 28 #[.int .i64 k, .string x] w (Gives (strE 1) w) := by
 unfold Gives strE
 go_enter Try.func28, Try.ntmps28
 go_wp2_with fail
 refine (of_none k hk _).mono ?_
 rintro e w2 ⟨rfl, rfl⟩
 go_wp2_with fail
 go_ret2
 exact ⟨rfl, Below.refl _ _⟩
theorem pub_some (k : Nat) (h1 : 1 ≤ k) (h3 : k ≤ 3) (x : ByteArray) (bx : Bool) (hx : isSc (grp k).q.m (grp k).size x = bx) (w : World) :
  Calls Try.prog 28 #[.int .i64 (k : Int), .string x] w (Gives (if bx then .tuple #[.string (textS (lowN (grp k) (2 ^ (numOf x % (grp k).q.m))) (grp k).size), .int .i64 0] else strE 6) w) := by
 have HX := Lib.hid hx
 have OK := Lib.hid (grp_ok k h1 h3)
 clear hx
 unfold Gives strE
 go_enter Try.func28, Try.ntmps28
 go_wp2_with fail
 refine (of_some k h1 h3 w).mono ?_
 rintro e w1 ⟨rfl, hg9, hb9⟩
 have HB := Lib.hid hb9
 have HZS := Lib.hid hb9.size
 have HG := Lib.hid hg9
 clear hg9 hb9
 go_wp2_with fail
 refine (gScalar_m (grp k) OK.out _ x bx HX.out w1 HG.out).mono ?_
 rintro e w2 ⟨sn, rfl, hb9, hn9⟩
 replace HG := Lib.hid (HG.out.up hb9)
 replace HB := hbu HB hb9
 replace HZS := sz HZS hb9.size
 have HSN := Lib.hid hn9
 clear hn9 hb9
 unfold limbV
 obtain ⟨w3, hq3, hb9, hz9, Hbn⟩ := new1 w2 98 [.int .u64 (dig (sn) 0 : Int), .int .u64 (dig (sn) 1 : Int), .int .u64 (dig (sn) 2 : Int), .int .u64 (dig (sn) 3 : Int)]
 replace HG := Lib.hid (HG.out.up hb9)
 replace HB := hbu HB hb9
 replace HZS := sz HZS hz9.out
 clear hb9 hz9
 have bn_ := Hbn.out.c4
 cases bx
 ·go_wp2_with fail
  clear hq3
  go_ret2
  exact ⟨rfl, HB.out⟩
 ·obtain rfl := HSN.out rfl
  go_wp2_with fail
  clear hq3
  refine (gRaise_any (grp k) OK.out _ _ w3 HG.out).mono ?_
  rintro e w4 ⟨rfl, hb9⟩
  clear bn_
  replace Hbn := Lib.hid (Hbn.out.up hb9)
  replace HG := Lib.hid (HG.out.up hb9)
  replace HB := hbu HB hb9
  replace HZS := sz HZS hb9.size
  clear hb9
  have bn_ := Hbn.out.c4
  go_wp2_with fail
  refine (gText_any (grp k) OK.out _ _ w4 HG.out).mono ?_
  rintro e w5 ⟨rfl, hb9⟩
  clear bn_
  replace Hbn := Lib.hid (Hbn.out.up hb9)
  replace HG := Lib.hid (HG.out.up hb9)
  replace HB := hbu HB hb9
  replace HZS := sz HZS hb9.size
  clear hb9
  have bn_ := Hbn.out.c4
  go_wp2_with fail
  go_ret2
  exact ⟨rfl, HB.out⟩
end Go.Proofs.Ytjmeakfjfpnciaa
namespace Go.Proofs.Ytjmeakfjfpnciaa
open Go.RowKit
def pubS (k : Int) (x : ByteArray) : ByteArray := textS (lowN (grp k.toNat) (2 ^ (numOf x % (grp k.toNat).q.m))) (grp k.toNat).size
def pubE (k : Int) (x : ByteArray) : Nat := if 1 ≤ k ∧ k ≤ 3 then (if isSc (grp k.toNat).q.m (grp k.toNat).size x = true then 0 else 6) else 1
end Go.Proofs.Ytjmeakfjfpnciaa
namespace Go.Proofs.Ytjmeakfjfpnciaa
open Go.RowKit
section
variable {G : GP} {aq ap : Option Addr} {cq cp : Nat}
end
section
variable {G : GP} {aq ap : Option Addr} {cq cp : Nat}
end
end Go.Proofs.Ytjmeakfjfpnciaa
namespace Go.Proofs.Ytjmeakfjfpnciaa
open Go.RowKit
section
variable {G : GP} {aq ap : Option Addr} {cq cp : Nat}
end
end Go.Proofs.Ytjmeakfjfpnciaa
namespace Go.Proofs.Ytjmeakfjfpnciaa
open Go.RowKit
section
variable {G : GP} {aq ap : Option Addr} {cq cp : Nat}
end
end Go.Proofs.Ytjmeakfjfpnciaa
namespace Go.Proofs.Ytjmeakfjfpnciaa
open Go.RowKit
section
variable {G : GP} {aq ap : Option Addr} {cq cp : Nat}
end
end Go.Proofs.Ytjmeakfjfpnciaa
namespace Go.Proofs.Ytjmeakfjfpnciaa
open Go.RowKit
section
variable {G : GP} {aq ap : Option Addr} {cq cp : Nat}
end
section
variable {G : GP} {aq ap : Option Addr} {cq cp : Nat}
end
end Go.Proofs.Ytjmeakfjfpnciaa
namespace Go.Proofs.Ytjmeakfjfpnciaa
open Go.RowKit
end Go.Proofs.Ytjmeakfjfpnciaa
namespace Go.Proofs.Ytjmeakfjfpnciaa
open Go.RowKit
end Go.Proofs.Ytjmeakfjfpnciaa
namespace Go.Proofs.Ytjmeakfjfpnciaa
open Go.RowKit
end Go.Proofs.Ytjmeakfjfpnciaa
namespace Go.Proofs.Ytjmeakfjfpnciaa
open Go.RowKit
end Go.Proofs.Ytjmeakfjfpnciaa
namespace Go.Proofs.Ytjmeakfjfpnciaa
open Go.RowKit
end Go.Proofs.Ytjmeakfjfpnciaa
namespace Go.Proofs.Ytjmeakfjfpnciaa
open Go.RowKit
end Go.Proofs.Ytjmeakfjfpnciaa
namespace Go.Proofs.Ytjmeakfjfpnciaa
open Go.RowKit
section
variable {G : GP} {aq ap : Option Addr} {cq cp : Nat}
end
end Go.Proofs.Ytjmeakfjfpnciaa
namespace Go.Proofs.Ytjmeakfjfpnciaa
open Go.ChangeShapes Go.WideShapes Go.ChangeAt Go.RowKit
end Go.Proofs.Ytjmeakfjfpnciaa
namespace Go.Proofs.Ytjmeakfjfpnciaa
open Go.RowKit
end Go.Proofs.Ytjmeakfjfpnciaa
namespace Go.Proofs.Ytjmeakfjfpnciaa
open Go.RowKit
def pubP (k : Int) (x : ByteArray) : ByteArray := if pubE k x = 0 then pubS k x else ⟨#[]⟩
theorem sPub_any (k : Int) (x : ByteArray) (w : World) : Calls Try.prog 28 #[.int .i64 k, .string x] w (Gives (.tuple #[.string (pubP k x), .int .i64 (pubE k x : Int)]) w) := by
 by_cases hk : 1 ≤ k ∧ k ≤ 3
 ·obtain ⟨j, rfl⟩ : ∃ j : Nat, k = (j : Int) := ⟨k.toNat, by omega⟩
  cases hx : isSc (grp j).q.m (grp j).size x with
  | true =>
   have h0 : pubE (j : Int) x = 0 := by unfold pubE; rw [if_pos hk, Int.toNat_natCast, if_pos hx]
   unfold pubP
   rw [h0]
   have h := pub_some j (by omega) (by omega) x true hx w
   simp only [if_true] at h
   exact h
  | false =>
   have h0 : pubE (j : Int) x = 6 := by unfold pubE; rw [if_pos hk, Int.toNat_natCast, hx]; rfl
   unfold pubP
   rw [h0]
   have h := pub_some j (by omega) (by omega) x false hx w
   simp only [Bool.false_eq_true, if_false] at h
   exact h
 ·have h0 : pubE k x = 1 := by unfold pubE; rw [if_neg hk]
  unfold pubP
  rw [h0]
  exact pub_none k hk x w
end Go.Proofs.Ytjmeakfjfpnciaa
namespace Go.Proofs.Ytjmeakfjfpnciaa
open Go.ChangeShapes Go.WideShapes Go.ChangeAt Go.RowKit
theorem bulk_one {H : Type} (d : DataW H) : 1 ≤ Rows.uptoBulk d := by
 cases d with
 | lit l => cases l <;> simp [Rows.uptoBulk]
 | nil => simp [Rows.uptoBulk]
 | ptr d => simp [Rows.uptoBulk]
 | slice elems spare => simp [Rows.uptoBulk]
 | agg parts => simp [Rows.uptoBulk]
 | iface t d => simp [Rows.uptoBulk]
 | map entries => simp [Rows.uptoBulk]
 | held h => simp [Rows.uptoBulk]
theorem bulk_part {H : Type} {d : DataW H} {l : List (DataW H)} (h : d ∈ l) : Rows.uptoBulk d ≤ Rows.uptoBulkAll l := by
 induction l with
 | nil => cases h
 | cons x r ih =>
  simp only [Rows.uptoBulkAll]
  rcases List.mem_cons.1 h with rfl | e
  ·omega
  ·have := ih e; omega
theorem bulk_length {H : Type} (l : List (DataW H)) : l.length ≤ Rows.uptoBulkAll l := by
 induction l with
 | nil => simp [Rows.uptoBulkAll]
 | cons x r ih => have := bulk_one x; simp only [Rows.uptoBulkAll, List.length_cons]; omega
theorem bulk_slice {H : Type} {elems spare : List (DataW H)} {B : Nat} (h : Rows.uptoBulk (.slice elems spare) ≤ B) : elems.length ≤ B ∧ ∀ d ∈ elems, Rows.uptoBulk d ≤ B := by
 simp only [Rows.uptoBulk] at h
 refine ⟨by have := bulk_length elems; omega, fun d hd => by have := bulk_part hd; omega⟩
theorem flat_range (g : Nat → Value) (k len : Nat) : ((List.range len).map fun i => (List.range k).map fun j => g (i * k + j)).flatten = (List.range (len * k)).map g := by
 induction len with
 | zero => simp
 | succ m ih =>
  rw [List.range_succ, List.map_append, List.flatten_append, ih, Nat.succ_mul, List.range_add, List.map_append]
  simp [List.map_map, Function.comp_def]
section
variable {H : Type} {enc : TypeId × Value → H} {P : Program} {w : World}
theorem open_flat {sp : Nat → Bool} {held : Bool} {t e : TypeId} {k fuel : Nat} {c : Value} {y : DataW H × List MemPlace} (ht : P.underlying t = some (.slice e)) (hk : P.cellsOf e = k) (hk0 : 0 < k) {B : Nat} (hB : Rows.uptoBulk y.1 ≤ B)
  (h : DataW.trod enc P w 0 sp held fuel t [c] = some y) :
  ∃ (a : Option Addr) (cap : Nat) (css : List (List Value)), c = .slice a css.length cap ∧ css.length ≤ B ∧ (∀ l ∈ css, l.length = k) ∧ Sl w w.heap.size a css.flatten ∧
   ∀ l ∈ css, ∃ n y', Rows.uptoBulk y'.1 ≤ B ∧ DataW.trod enc P w 0 sp held n e l = some y' := by
 have hlt := DataW.trod_lt _ _ _ _ h
 rcases DataW.trod_slice ht h with ⟨hcs, _⟩ | ⟨x, len, cap, elems, rest, n, _, hcs, hx, hb, hl, hm, hlen, hel, _, _⟩
 ·simp only [List.cons.injEq, and_true] at hcs
  exact ⟨none, 0, [], hcs, by simp, by simp, Or.inl rfl, by simp⟩
 simp only [List.cons.injEq, and_true] at hcs
 subst hcs
 by_cases h0 : len = 0
 ·subst h0
  exact ⟨some x, cap, [], rfl, by simp, by simp, Or.inl rfl, by simp⟩
 have hbk := bulk_slice (elems := elems.map (·.1)) (spare := rest.map (·.1)) (B := B) (by rw [hx] at hB; exact hB)
 have each : ∀ i, i < len → ∃ l y', w.cells? 0 (x.add (i * k)) k = some l ∧ Rows.uptoBulk y'.1 ≤ B ∧ DataW.trod enc P w 0 sp held n e l = some y' := by
  intro i hi
  have h1 := hel i hi
  rw [hk, show elems[i]? = some (elems[i]'(by omega)) from List.getElem?_eq_getElem (by omega), Option.bind_eq_some_iff] at h1
  obtain ⟨l, hl, hy⟩ := h1
  exact ⟨l, _, hl, hbk.2 _ (List.mem_map.2 ⟨_, List.getElem_mem _, rfl⟩), hy⟩
 obtain ⟨b, off, spot⟩ := x
 have hspot : spot = none := by
  obtain ⟨l, _, h1, _⟩ := each 0 (by omega)
  obtain ⟨_, h2, h3⟩ := World.cells?_some h1
  have h4 := h3 0 hk0
  obtain ⟨v, hv⟩ : ∃ v, l[0]? = some v := ⟨_, List.getElem?_eq_getElem (by omega)⟩
  rw [hv, Deep.add_add, Nat.zero_mul, Nat.zero_add] at h4
  simpa [Addr.add] using World.cell?_spot h4
 subst hspot
 have hbW : b < w.heap.size := hlt (.cell b off) (by
  rw [hx]
  exact List.mem_append_left _ (MemPlace.mem_row.2 ⟨0, by rw [hk]; have : 0 < (elems.length + rest.length) * k := Nat.mul_pos (by omega) hk0; omega, by simp⟩))
 have hL : ∀ i, i < len → ((List.range k).map fun j => (w.cell? ⟨b, off + (i * k + j), none⟩).getD (.bool false)).length = k ∧
   (∀ j, j < k → w.cell? ⟨b, off + (i * k + j), none⟩ = some ((w.cell? ⟨b, off + (i * k + j), none⟩).getD (.bool false))) ∧
   ∃ y', Rows.uptoBulk y'.1 ≤ B ∧ DataW.trod enc P w 0 sp held n e ((List.range k).map fun j => (w.cell? ⟨b, off + (i * k + j), none⟩).getD (.bool false)) = some y' := by
  intro i hi
  obtain ⟨l, y', h1, h2b, h2⟩ := each i hi
  obtain ⟨_, h3, h4⟩ := World.cells?_some h1
  have h5 : ∀ j, j < k → w.cell? ⟨b, off + (i * k + j), none⟩ = l[j]? := by
   intro j hj
   have := h4 j hj
   rwa [Deep.add_add, add_plain] at this
  have e1 : (List.range k).map (fun j => (w.cell? ⟨b, off + (i * k + j), none⟩).getD (.bool false)) = l := by
   apply List.ext_getElem?
   intro j
   by_cases hj : j < k
   ·rw [List.getElem?_map, List.getElem?_range hj, Option.map_some, h5 j hj, List.getElem?_eq_getElem (show j < l.length by omega), Option.getD_some]
   ·rw [List.getElem?_eq_none (by simp; omega), List.getElem?_eq_none (by omega)]
  refine ⟨by simp, ?_, ?_⟩
  ·intro j hj
   rw [h5 j hj, List.getElem?_eq_getElem (show j < l.length by omega), Option.getD_some]
  ·rw [e1]; exact ⟨y', h2b, h2⟩
 refine ⟨some ⟨b, off, none⟩, cap, (List.range len).map fun i => (List.range k).map fun j => (w.cell? ⟨b, off + (i * k + j), none⟩).getD (.bool false), by simp, ?_, ?_, Or.inr ⟨b, off, rfl, hbW, ?_⟩, ?_⟩
 ·have := hbk.1; rw [List.length_map] at this; simp; omega
 ·intro l hl
  obtain ⟨i, _, rfl⟩ := List.mem_map.1 hl
  simp
 ·have hflat := flat_range (fun m => (w.cell? ⟨b, off + m, none⟩).getD (.bool false)) k len
  intro i v hv
  rw [hflat] at hv
  have hi : i < len * k := by have := (List.getElem?_eq_some_iff.1 hv).1; simpa using this
  have hq : i / k < len := Nat.div_lt_of_lt_mul (by rwa [Nat.mul_comm] at hi)
  have hc := (hL (i / k) hq).2.1 (i % k) (Nat.mod_lt _ hk0)
  rw [show i / k * k + i % k = i by rw [Nat.mul_comm]; exact Nat.div_add_mod i k] at hc
  rw [hc, ← hv, List.getElem?_map, List.getElem?_range hi, Option.map_some]
 ·intro l hl
  obtain ⟨i, hi, rfl⟩ := List.mem_map.1 hl
  obtain ⟨y', hyb, hy⟩ := (hL i (List.mem_range.1 hi)).2.2
  exact ⟨n, y', hyb, hy⟩
theorem list_shapes {α : Type} (f : α → List Value) (R : α → Prop) : ∀ css : List (List Value), (∀ l ∈ css, ∃ x, l = f x ∧ R x) → ∃ xs : List α, xs.length = css.length ∧ css.flatten = xs.flatMap f ∧ ∀ x ∈ xs, R x
 | [], _ => ⟨[], rfl, rfl, by simp⟩
 | l :: css, h => by
  obtain ⟨x, rfl, hR⟩ := h l (by simp)
  obtain ⟨xs, h1, h2, h3⟩ := list_shapes f R css (fun c hc => h c (by simp [hc]))
  refine ⟨x :: xs, by simp [h1], by simp [h2], ?_⟩
  intro y hy
  rcases List.mem_cons.1 hy with rfl | hy
  ·exact hR
  ·exact h3 y hy
theorem open_els {α : Type} (f : α → List Value) (R : α → Prop) {sp : Nat → Bool} {held : Bool} {t e : TypeId} {k fuel : Nat} {c : Value} {y : DataW H × List MemPlace} (ht : P.underlying t = some (.slice e)) (hk : P.cellsOf e = k) (hk0 : 0 < k) {B : Nat} (hB : Rows.uptoBulk y.1 ≤ B)
  (hel : ∀ n l y', l.length = k → Rows.uptoBulk y'.1 ≤ B → DataW.trod enc P w 0 sp held n e l = some y' → ∃ x, l = f x ∧ R x) (h : DataW.trod enc P w 0 sp held fuel t [c] = some y) :
  ∃ (a : Option Addr) (cap : Nat) (xs : List α), c = .slice a xs.length cap ∧ xs.length ≤ B ∧ Sl w w.heap.size a (xs.flatMap f) ∧ ∀ x ∈ xs, R x := by
 obtain ⟨a, cap, css, rfl, hlB, hl, hs, he⟩ := open_flat ht hk hk0 hB h
 obtain ⟨xs, h1, h2, h3⟩ := list_shapes f R css (fun l hm => by
  obtain ⟨n, y', hyb, hy⟩ := he l hm
  exact hel n l y' (hl l hm) hyb hy)
 exact ⟨a, cap, xs, by rw [h1], by omega, h2 ▸ hs, h3⟩
end
end Go.Proofs.Ytjmeakfjfpnciaa
namespace Go.Proofs.Ytjmeakfjfpnciaa
open Go.ChangeShapes Go.WideShapes Go.ChangeAt Go.RowKit
def Wt {H : Type} (P : Program) (t : TypeId) (d : DataW H) : Prop := ∀ n ∈ DataW.weights P t d, n ≤ reachBytes
theorem weightsAll_mem {H : Type} {P : Program} {e : TypeId} : ∀ {l : List (DataW H)} {d : DataW H}, d ∈ l → ∀ n ∈ DataW.weights P e d, n ∈ DataW.weightsAll P e l
 | x :: l, d, hd, n, hn => by
  simp only [DataW.weightsAll, List.mem_append]
  rcases List.mem_cons.1 hd with rfl | h
  ·exact Or.inl hn
  ·exact Or.inr (weightsAll_mem h n hn)
theorem Wt.slice {H : Type} {P : Program} {t e : TypeId} {elems spare : List (DataW H)} (ht : P.underlying t = some (.slice e)) (h : Wt P t (.slice elems spare)) : elems.length * P.bytesOf e ≤ reachBytes ∧ ∀ d ∈ elems, Wt P e d := by
 unfold Wt at h
 simp only [DataW.weights, ht, List.mem_cons, List.mem_append] at h
 refine ⟨Nat.le_trans (Nat.mul_le_mul_right _ (Nat.le_add_right _ _)) (h _ (Or.inl rfl)), fun d hd n hn => h n (Or.inr (Or.inl (weightsAll_mem hd n hn)))⟩
section
variable {H : Type} {enc : TypeId × Value → H} {P : Program} {w : World}
theorem open_flatW {sp : Nat → Bool} {held : Bool} {t e : TypeId} {k fuel : Nat} {c : Value} {y : DataW H × List MemPlace} (ht : P.underlying t = some (.slice e)) (hk : P.cellsOf e = k) (hk0 : 0 < k) (hW : Wt P t y.1)
  (h : DataW.trod enc P w 0 sp held fuel t [c] = some y) :
  ∃ (a : Option Addr) (cap : Nat) (css : List (List Value)), c = .slice a css.length cap ∧ css.length * P.bytesOf e ≤ reachBytes ∧ (a = none → cap = 0) ∧ (∀ l ∈ css, l.length = k) ∧ Sl w w.heap.size a css.flatten ∧
   ∀ l ∈ css, ∃ n y', Wt P e y'.1 ∧ DataW.trod enc P w 0 sp held n e l = some y' := by
 have hlt := DataW.trod_lt _ _ _ _ h
 rcases DataW.trod_slice ht h with ⟨hcs, _⟩ | ⟨x, len, cap, elems, rest, n, _, hcs, hx, hb, hl, hm, hlen, hel, _, _⟩
 ·simp only [List.cons.injEq, and_true] at hcs
  exact ⟨none, 0, [], hcs, by simp, fun _ => rfl, by simp, Or.inl rfl, by simp⟩
 simp only [List.cons.injEq, and_true] at hcs
 subst hcs
 by_cases h0 : len = 0
 ·subst h0
  exact ⟨some x, cap, [], rfl, by simp, by simp, by simp, Or.inl rfl, by simp⟩
 have hbk := Wt.slice (elems := elems.map (·.1)) (spare := rest.map (·.1)) ht (by rw [hx] at hW; exact hW)
 have each : ∀ i, i < len → ∃ l y', w.cells? 0 (x.add (i * k)) k = some l ∧ Wt P e y'.1 ∧ DataW.trod enc P w 0 sp held n e l = some y' := by
  intro i hi
  have h1 := hel i hi
  rw [hk, show elems[i]? = some (elems[i]'(by omega)) from List.getElem?_eq_getElem (by omega), Option.bind_eq_some_iff] at h1
  obtain ⟨l, hl, hy⟩ := h1
  exact ⟨l, _, hl, hbk.2 _ (List.mem_map.2 ⟨_, List.getElem_mem _, rfl⟩), hy⟩
 obtain ⟨b, off, spot⟩ := x
 have hspot : spot = none := by
  obtain ⟨l, _, h1, _⟩ := each 0 (by omega)
  obtain ⟨_, h2, h3⟩ := World.cells?_some h1
  have h4 := h3 0 hk0
  obtain ⟨v, hv⟩ : ∃ v, l[0]? = some v := ⟨_, List.getElem?_eq_getElem (by omega)⟩
  rw [hv, Deep.add_add, Nat.zero_mul, Nat.zero_add] at h4
  simpa [Addr.add] using World.cell?_spot h4
 subst hspot
 have hbW : b < w.heap.size := hlt (.cell b off) (by
  rw [hx]
  exact List.mem_append_left _ (MemPlace.mem_row.2 ⟨0, by rw [hk]; have : 0 < (elems.length + rest.length) * k := Nat.mul_pos (by omega) hk0; omega, by simp⟩))
 have hL : ∀ i, i < len → ((List.range k).map fun j => (w.cell? ⟨b, off + (i * k + j), none⟩).getD (.bool false)).length = k ∧
   (∀ j, j < k → w.cell? ⟨b, off + (i * k + j), none⟩ = some ((w.cell? ⟨b, off + (i * k + j), none⟩).getD (.bool false))) ∧
   ∃ y', Wt P e y'.1 ∧ DataW.trod enc P w 0 sp held n e ((List.range k).map fun j => (w.cell? ⟨b, off + (i * k + j), none⟩).getD (.bool false)) = some y' := by
  intro i hi
  obtain ⟨l, y', h1, h2b, h2⟩ := each i hi
  obtain ⟨_, h3, h4⟩ := World.cells?_some h1
  have h5 : ∀ j, j < k → w.cell? ⟨b, off + (i * k + j), none⟩ = l[j]? := by
   intro j hj
   have := h4 j hj
   rwa [Deep.add_add, add_plain] at this
  have e1 : (List.range k).map (fun j => (w.cell? ⟨b, off + (i * k + j), none⟩).getD (.bool false)) = l := by
   apply List.ext_getElem?
   intro j
   by_cases hj : j < k
   ·rw [List.getElem?_map, List.getElem?_range hj, Option.map_some, h5 j hj, List.getElem?_eq_getElem (show j < l.length by omega), Option.getD_some]
   ·rw [List.getElem?_eq_none (by simp; omega), List.getElem?_eq_none (by omega)]
  refine ⟨by simp, ?_, ?_⟩
  ·intro j hj
   rw [h5 j hj, List.getElem?_eq_getElem (show j < l.length by omega), Option.getD_some]
  ·rw [e1]; exact ⟨y', h2b, h2⟩
 refine ⟨some ⟨b, off, none⟩, cap, (List.range len).map fun i => (List.range k).map fun j => (w.cell? ⟨b, off + (i * k + j), none⟩).getD (.bool false), by simp, ?_, by simp, ?_, Or.inr ⟨b, off, rfl, hbW, ?_⟩, ?_⟩
 ·have := hbk.1; rw [List.length_map, hlen] at this; simpa using this
 ·intro l hl
  obtain ⟨i, _, rfl⟩ := List.mem_map.1 hl
  simp
 ·have hflat := flat_range (fun m => (w.cell? ⟨b, off + m, none⟩).getD (.bool false)) k len
  intro i v hv
  rw [hflat] at hv
  have hi : i < len * k := by have := (List.getElem?_eq_some_iff.1 hv).1; simpa using this
  have hq : i / k < len := Nat.div_lt_of_lt_mul (by rwa [Nat.mul_comm] at hi)
  have hc := (hL (i / k) hq).2.1 (i % k) (Nat.mod_lt _ hk0)
  rw [show i / k * k + i % k = i by rw [Nat.mul_comm]; exact Nat.div_add_mod i k] at hc
  rw [hc, ← hv, List.getElem?_map, List.getElem?_range hi, Option.map_some]
 ·intro l hl
  obtain ⟨i, hi, rfl⟩ := List.mem_map.1 hl
  obtain ⟨y', hyb, hy⟩ := (hL i (List.mem_range.1 hi)).2.2
  exact ⟨n, y', hyb, hy⟩
theorem open_elsW {α : Type} (f : α → List Value) (R : α → Prop) {sp : Nat → Bool} {held : Bool} {t e : TypeId} {k fuel : Nat} {c : Value} {y : DataW H × List MemPlace} (ht : P.underlying t = some (.slice e)) (hk : P.cellsOf e = k) (hk0 : 0 < k) (hW : Wt P t y.1)
  (hel : ∀ n l y', l.length = k → Wt P e y'.1 → DataW.trod enc P w 0 sp held n e l = some y' → ∃ x, l = f x ∧ R x) (h : DataW.trod enc P w 0 sp held fuel t [c] = some y) :
  ∃ (a : Option Addr) (cap : Nat) (xs : List α), c = .slice a xs.length cap ∧ xs.length * P.bytesOf e ≤ reachBytes ∧ (a = none → cap = 0) ∧ Sl w w.heap.size a (xs.flatMap f) ∧ ∀ x ∈ xs, R x := by
 obtain ⟨a, cap, css, rfl, hlB, hno, hl, hs, he⟩ := open_flatW ht hk hk0 hW h
 obtain ⟨xs, h1, h2, h3⟩ := list_shapes f R css (fun l hm => by
  obtain ⟨n, y', hyb, hy⟩ := he l hm
  exact hel n l y' (hl l hm) hyb hy)
 exact ⟨a, cap, xs, by rw [h1], by rw [h1]; exact hlB, hno, h2 ▸ hs, h3⟩
end
end Go.Proofs.Ytjmeakfjfpnciaa
namespace Go.Proofs.Ytjmeakfjfpnciaa
open Go.ChangeShapes Go.WideShapes Go.ChangeAt Go.RowKit
end Go.Proofs.Ytjmeakfjfpnciaa
namespace Go.Proofs.Ytjmeakfjfpnciaa
open Go.ChangeShapes Go.WideShapes Go.ChangeAt Go.RowKit
theorem ints6_cells : Try.prog.cellsOf 3 = 1 := by kernel_rfl
theorem ints6_bytes : Try.prog.bytesOf 3 = 8 := by kernel_rfl
theorem open_intsC {H : Type} {enc : TypeId × Value → H} {w : World} {sp : Nat → Bool} {held : Bool} {fuel : Nat} {c : Value} {y : DataW H × List MemPlace} (hW : Wt Try.prog 32 y.1) (h : DataW.trod enc Try.prog w 0 sp held fuel 32 [c] = some y) :
  ∃ (a : Option Addr) (cap : Nat) (xs : List Int), c = .slice a xs.length cap ∧ xs.length * 8 ≤ reachBytes ∧ Sl w w.heap.size a (xs.map fun x => Value.int .i64 x) ∧ (∀ x ∈ xs, -9223372036854775808 ≤ x ∧ x ≤ 9223372036854775807) ∧ (a = none → cap = 0) := by
 obtain ⟨a, cap, xs, h1, hb, hno, h2, h3⟩ := open_elsW (fun x : Int => [Value.int .i64 x]) (fun x => -9223372036854775808 ≤ x ∧ x ≤ 9223372036854775807) Try.underlying32 ints6_cells (by omega) hW (fun n l y' hl hw hy => by
  match l, hl with
  | [c'], _ =>
   obtain ⟨x, hc9, _, hx⟩ := DataW.trod_int Try.underlying3 hy
   refine ⟨x, hc9, ?_⟩
   simp only [Lit.wf, Bool.and_eq_true, decide_eq_true_eq] at hx
   exact hx) h
 rw [ints6_bytes] at hb
 refine ⟨a, cap, xs, h1, hb, ?_, h3, hno⟩
 rw [← List.flatMap_singleton' (xs.map fun x => Value.int .i64 x), List.flatMap_map]
 exact h2
theorem open_no {H : Type} {enc : TypeId × Value → H} {w : World} {sp : Nat → Bool} {held : Bool} {fuel : Nat} {t e : TypeId} {a : Option Addr} {n cap : Nat} {y : DataW H × List MemPlace} (ht : Try.prog.underlying t = some (.slice e)) (h : DataW.trod enc Try.prog w 0 sp held fuel t [.slice a n cap] = some y) : a = none → cap = 0 := by
 intro e9
 rcases DataW.trod_slice ht h with ⟨hcs, _⟩ | ⟨x, l, c, elems, rest, n9, _, hcs, _⟩
 ·simp only [List.cons.injEq, Value.slice.injEq, and_true] at hcs
  exact hcs.2.2
 ·simp only [List.cons.injEq, Value.slice.injEq, and_true] at hcs
  rw [e9] at hcs
  cases hcs.1
theorem open_intsB {H : Type} {enc : TypeId × Value → H} {w : World} {sp : Nat → Bool} {held : Bool} {fuel : Nat} {c : Value} {y : DataW H × List MemPlace} {B : Nat} (hB : Rows.uptoBulk y.1 ≤ B) (h : DataW.trod enc Try.prog w 0 sp held fuel 32 [c] = some y) :
  ∃ (a : Option Addr) (cap : Nat) (xs : List Int), c = .slice a xs.length cap ∧ xs.length ≤ B ∧ Sl w w.heap.size a (xs.map fun x => Value.int .i64 x) ∧ (∀ x ∈ xs, -9223372036854775808 ≤ x ∧ x ≤ 9223372036854775807) ∧ (a = none → cap = 0) := by
 obtain ⟨a, cap, xs, h1, hb, h2, h3⟩ := open_els (fun x : Int => [Value.int .i64 x]) (fun x => -9223372036854775808 ≤ x ∧ x ≤ 9223372036854775807) Try.underlying32 ints6_cells (by omega) hB (fun n l y' hl hw hy => by
  match l, hl with
  | [c'], _ =>
   obtain ⟨x, hc9, _, hx⟩ := DataW.trod_int Try.underlying3 hy
   refine ⟨x, hc9, ?_⟩
   simp only [Lit.wf, Bool.and_eq_true, decide_eq_true_eq] at hx
   exact hx) h
 refine ⟨a, cap, xs, h1, hb, ?_, h3, open_no (a := a) (n := xs.length) Try.underlying32 (h1 ▸ h)⟩
 rw [← List.flatMap_singleton' (xs.map fun x => Value.int .i64 x), List.flatMap_map]
 exact h2
end Go.Proofs.Ytjmeakfjfpnciaa
namespace Go.Proofs.Ytjmeakfjfpnciaa
open Go.ChangeShapes Go.WideShapes Go.ChangeAt Go.RowKit
end Go.Proofs.Ytjmeakfjfpnciaa
namespace Go.Proofs.Ytjmeakfjfpnciaa
open Go.ChangeShapes Go.WideShapes Go.ChangeAt Go.RowKit
section
variable {H : Type} {enc : TypeId × Value → H} {w : World}
end
section
variable {H : Type} {enc : TypeId × Value → H} {w : World}
end
end Go.Proofs.Ytjmeakfjfpnciaa
namespace Go.Proofs.Ytjmeakfjfpnciaa
open Go.ChangeShapes Go.WideShapes Go.ChangeAt Go.RowKit
section
variable {H : Type} {enc : TypeId × Value → H} {w : World}
end
end Go.Proofs.Ytjmeakfjfpnciaa
namespace Go.Proofs.Ytjmeakfjfpnciaa
open Go.ChangeShapes Go.WideShapes Go.ChangeAt Go.RowKit
theorem share_pub {k : Nat} (h1 : 1 ≤ k) (h3 : k ≤ 3) (f : Nat → Nat) : pubE (k : Int) (textS (f 0 % (grp k).q.m) (grp k).size) = 0 ∧ pubP (k : Int) (textS (f 0 % (grp k).q.m) (grp k).size) = textS (lowN (grp k) (2 ^ (f 0 % (grp k).q.m))) (grp k).size := by
 have ok := grp_ok k h1 h3
 have hlt := Nat.mod_lt (f 0) ok.q.pos
 have h0 : pubE (k : Int) (textS (f 0 % (grp k).q.m) (grp k).size) = 0 := by
  unfold pubE
  rw [if_pos (by omega), Int.toNat_natCast, if_pos (sc_textS ok hlt)]
 refine ⟨h0, ?_⟩
 unfold pubP pubS
 rw [if_pos h0, Int.toNat_natCast, num_textS ok hlt, Nat.mod_mod]
theorem RowO.keptQ {P : Nat → Prop} {N n size : Nat} {w w1 : World} {e : TypeId} {v : Value} {xs : List Value} (h : RowO N w e size v n xs) (hk : Kept P w w1) (hne : ∀ q, v.ownBlock = some q → ¬ P q) : RowO N w1 e size v n xs := by
 refine ⟨h.1, ?_⟩
 rcases h.2 with h1 | ⟨g, cap, cur, rfl, h2, h3, h4⟩
 ·exact Or.inl h1
 ·exact Or.inr ⟨g, cap, cur, rfl, h2, (hk.block g (Array.getElem?_eq_some_iff.1 h3).1 (hne g rfl)).trans h3, h4⟩
theorem two_rows {N n size g : Nat} {w w1 : World} {e : TypeId} {v u : Value} {xs : List Value} (hf : v.ownBlock = some g ∨ w.heap.size ≤ g) (hk : Kept (fun q => v.ownBlock = some q) w w1) (hs : RowO N w e size u n xs) (ho : ∀ q, v.ownBlock = some q → u.ownBlock ≠ some q) : RowO N w1 e size u n xs ∧ ∀ q, some g = some q → u.ownBlock ≠ some q := by
 refine ⟨hs.keptQ hk (fun q hq e => ho q e hq), fun q e h => ?_⟩
 cases e
 rcases hf with hf | hf
 ·exact ho _ hf h
 ·have := (hs.lt _ h).2
  omega
theorem shares_bad (kind need of : Int) (seed : ByteArray) (er : Nat) (he : er = 1 ∨ er = 4) (HH : ∀ w, Calls Try.prog 25 #[.int .i64 kind, .int .i64 need, .int .i64 of, .string seed] w (DealR er [] [] w)) (v : Value) (w : World) :
  Calls Try.prog 8 #[.int .i64 kind, .int .i64 need, .int .i64 of, .string seed, v] w fun e w' => e = .returned (.bool true) ∧ Below w.heap.size w w' := by
 obtain ⟨C, hC⟩ : ∃ C : List ByteArray, [] = C := ⟨_, rfl⟩
 rw [hC] at HH
 clear hC
 have HH1 := Lib.hid HH
 clear HH
 unfold DealR at HH1
 generalize C.length = n at *
 rcases he with rfl | rfl
 ·go_enter Try.func8, Try.ntmps8
  go_wp2_with fail
  refine (HH1.out w).mono ?_
  rintro e w1 ⟨hb9, a1, c1, a2, c2, rfl, hs9, ht9, _, _⟩
  have HB := Lib.hid hb9
  have HZS := Lib.hid hb9.size
  clear hb9 hs9 ht9
  obtain ⟨w2, hq2, hb9, hz9, Hd1⟩ := new1 w1 46 [.slice a1 n c1, .slice a2 n c2]
  replace HB := hbu HB hb9
  replace HZS := sz HZS hz9.out
  clear hb9 hz9
  have d1_ := Hd1.out.c2
  go_wp2_with fail
  clear hq2
  go_ret
  exact ⟨rfl, HB.out⟩
 ·go_enter Try.func8, Try.ntmps8
  go_wp2_with fail
  refine (HH1.out w).mono ?_
  rintro e w1 ⟨hb9, a1, c1, a2, c2, rfl, hs9, ht9, _, _⟩
  have HB := Lib.hid hb9
  have HZS := Lib.hid hb9.size
  clear hb9 hs9 ht9
  obtain ⟨w2, hq2, hb9, hz9, Hd1⟩ := new1 w1 46 [.slice a1 n c1, .slice a2 n c2]
  replace HB := hbu HB hb9
  replace HZS := sz HZS hz9.out
  clear hb9 hz9
  have d1_ := Hd1.out.c2
  go_wp2_with fail
  clear hq2
  go_ret
  exact ⟨rfl, HB.out⟩
theorem Sl.atStr {w : World} {a : Option Addr} {L : List ByteArray} {i : Nat} {s : ByteArray} (h : Sl w w.heap.size a (L.map Value.string)) (hi : L[i]? = some s) : ∃ b o, a = some ⟨b, o, none⟩ ∧ b < w.heap.size ∧ w.cell? ⟨b, o + i, none⟩ = some (.string s) := by
 obtain ⟨hl, e⟩ := List.getElem?_eq_some_iff.1 hi
 obtain ⟨b, o, ha, hb, hc⟩ := h.at i (by rw [List.length_map]; exact hl)
 rw [List.getElem_map, e] at hc
 exact ⟨b, o, ha, hb, hc⟩
theorem pl_not4 {l : List Int} (h : ∀ x ∈ l, 0 ≤ x ∧ x ≤ 255) : placesE l ≠ 4 := by
 unfold placesE
 by_cases h1 : 16 < l.length
 ·rw [if_pos h1]; decide
 rw [if_neg h1]
 by_cases h2 : l.length = 0
 ·rw [if_pos h2]; decide
 rw [if_neg h2, if_neg]
 ·split <;> decide
 ·intro h3
  obtain ⟨x, hx, h4⟩ := List.any_eq_true.1 h3
  have := h x hx
  unfold outPl at h4
  simp at h4
  omega
theorem mapA_snoc {α : Type} (f : Int → ByteArray) (g : ByteArray → α) {l : List Int} {j : Nat} (hj : j < l.length) : ((l.take (j + 1)).map f).map g = ((l.take j).map f).map g ++ [g (f l[j])] := by
 rw [List.take_succ_eq_append_getElem hj, List.map_append, List.map_append]
 rfl
theorem shares_some (k : Nat) (h1 : 1 ≤ k) (h3 : k ≤ 3) (n m : Nat) (hr : rightB n m = true) (seed : ByteArray) (hs : seed.size < 140737488355328) (l : List Int) (nl : Nat) (hl : l.length = nl) (hl16 : (nl + 1) * 16 ≤ 140737488355328) (al : Option Addr) (cl : Nat) (w : World) (hL : Sl w w.heap.size al (l.map intV)) :
  Calls Try.prog 8 #[.int .i64 (k : Int), .int .i64 (n : Int), .int .i64 (m : Int), .string seed, .slice al nl cl] w fun e w' => e = .returned (.bool true) ∧ Below w.heap.size w w' := by
 have hnm : m ≤ 8 ∧ n ≤ 8 ∧ 0 < n := by unfold rightB at hr; simp at hr; omega
 obtain ⟨hm8, hn8, hn0⟩ := hnm
 have HD := Lib.hid (fun w => tDeal_some k h1 h3 n m hr seed hs w)
 unfold DealR at HD
 generalize chcN coefB seed = f at *
 have HF := Lib.hid (fun (i : Nat) (hi : i < m) a c W h => show Calls Try.prog 26 #[.int .i64 (k : Int), .slice a n c, .int .i64 ((i : Int) + 1), .string (shT (grp k) f n ((i : Int) + 1))] W (Gives (.bool true) W) from by
  have h9 := tFits_some k h1 h3 (cmtL (grp k) f n) n (cmtL_len _ _ _) (by omega) ((i : Int) + 1) (shT (grp k) f n ((i : Int) + 1)) a c W h
  rwa [fit_share h1 h3 f n (by omega) (by omega) ((i : Int) + 1) (by omega)] at h9)
 have HSN := Lib.hid (fun (i : Nat) (hi : i < m) a c W h => show Calls Try.prog 27 #[.int .i64 (k : Int), .slice a n c, .int .i64 ((i : Int) + 1)] W (Gives (.tuple #[.string (snT (grp k) f n ((i : Int) + 1)), .int .i64 ((0 : Nat) : Int)]) W) from by
  have h9 := tSeen_some k h1 h3 (cmtL (grp k) f n) n (cmtL_len _ _ _) (by omega) ((i : Int) + 1) a c W h
  obtain ⟨e1, e2⟩ := seenS_share h1 h3 f n (by omega) (by omega) ((i : Int) + 1) (by omega)
  rwa [e1, e2] at h9)
 have HTH := Lib.hid (fun a c W h g => through_some k h1 h3 l nl hl (by omega) (shL (grp k) f n l) nl (by simp [shL, hl]) 0 al a cl c W h g)
 have HTO := Lib.hid (fun a c W h g => together_some k h1 h3 l nl hl (by omega) (snL (grp k) f n l) nl (by simp [snL, hl]) al a cl c W h g)
 have HPU := Lib.hid (fun W => sPub_any (k : Int) (textS (f 0 % (grp k).q.m) (grp k).size) W)
 rw [(share_pub h1 h3 f).1, (share_pub h1 h3 f).2] at HPU
 have HSJ := Lib.hid (fun hz hnl => share_join h1 h3 f n (by omega) l hz hnl)
 have HC0 := Lib.hid (show (cmtL (grp k) f n)[0]? = some (textS (lowN (grp k) (2 ^ (f 0 % (grp k).q.m))) (grp k).size) from List.getElem?_eq_some_iff.2 ⟨by rw [cmtL_len]; omega, cmtL_at (grp k) f n 0 (by rw [cmtL_len]; omega)⟩)
 have HSA := Lib.hid (fun i (hi : i < m) => show (shrL (grp k) f n m)[i]? = some (shT (grp k) f n ((i : Int) + 1)) from List.getElem?_eq_some_iff.2 ⟨by rw [shrL_len]; exact hi, shrL_at (grp k) f n m i (by rw [shrL_len]; exact hi)⟩)
 have HER := share_errs h1 h3 f n l
 rw [HER.1] at HTH
 rw [HER.2] at HTO
 have HLC := cmtL_len (grp k) f n
 have HLS := shrL_len (grp k) f n m
 rw [HLC, HLS] at HD
 have HCL := Lib.hid HLC
 have HSL := Lib.hid HLS
 obtain ⟨z, hz⟩ : ∃ z, placesE l = z := ⟨_, rfl⟩
 have hz9 := pl_errs l
 have hz8 := pl_not4 (l := l)
 rw [hz] at HTH HTO HSJ hz9 hz8
 have HZ9 := Lib.hid hz9
 have HZ8 := Lib.hid hz8
 unfold Gives at HF HSN HTH HTO HPU
 have HL := Lib.hid hL
 have HM := Lib.hid hl
 generalize cmtL (grp k) f n = C at *
 generalize shrL (grp k) f n m = S at *
 generalize textS (lowN (grp k) (2 ^ (f 0 % (grp k).q.m))) (grp k).size = k0 at *
 generalize textS (f 0 % (grp k).q.m) (grp k).size = s0 at *
 clear hr hs hz hz9 hz8 HER HLC HLS hL hl
 go_enter Try.func8, Try.ntmps8
 go_wp2_with fail
 refine (HD.out w).mono ?_
 rintro e w1 ⟨hb9, a1, c1, a2, c2, rfl, hs9, ht9, _, _⟩
 have HB := Lib.hid hb9
 have HZS := Lib.hid hb9.size
 have HS1 := Lib.hid hs9
 clear hs9
 have HS2 := Lib.hid ht9
 clear ht9 hb9
 have B1 := Lib.hid (Below.refl w1.heap.size w1)
 obtain ⟨w2, hq2, hb9, hz9, Hd1⟩ := new1 w1 46 [.slice a1 n c1, .slice a2 m c2]
 replace B1 := hbu B1 hb9
 replace HB := hbu HB hb9
 replace HZS := sz HZS hz9.out
 clear hb9 hz9
 have d1_ := Hd1.out.c2
 go_wp2_with fail
 clear hq2
 have HC1 := Lib.hid (HS1.out.up B1.out)
 have HC2 := Lib.hid (HS2.out.up B1.out)
 clear HS1 HS2 B1
 have BL := Lib.hid (Below.refl w2.heap.size w2)
 go_loopw [53, 13, 14] (fun i v u wr => ∃ (j : Nat) (g : Option Addr) (c9 : Nat) (g2 : Option Addr) (c8 : Nat), j ≤ nl ∧ i = .int .i64 j ∧ v = .slice g j c9 ∧ u = .slice g2 j c8 ∧ Hid (Below w2.heap.size w2 wr) ∧ Hid (RowO w2.heap.size wr 9 1 (.slice g j c9) j ((shL (grp k) f n (l.take j)).map Value.string)) ∧ Hid (RowO w2.heap.size wr 9 1 (.slice g2 j c8) j ((snL (grp k) f n (l.take j)).map Value.string)) ∧ Hid (∀ q, (Value.slice g j c9).ownBlock = some q → (Value.slice g2 j c8).ownBlock ≠ some q) ∧ Hid (∀ x ∈ l.take j, 0 ≤ x ∧ x ≤ 255)) (fun i _ _ _ => nl - (intOf i).toNat)
 case atStart => exact ⟨0, none, 0, none, 0, Nat.zero_le _, rfl, rfl, rfl, BL, RowO.nil, RowO.nil, Lib.hid (fun q h => nomatch h), Lib.hid (fun x h => by simp at h)⟩
 case round =>
  obtain ⟨j, g, c9, g2, c8, hj, rfl, rfl, rfl, HL9, Hr, Hs, HOF, HIN⟩ := hrel
  have hb9 := HL9.out
  clear HL9 d1_
  replace Hd1 := Lib.hid (Hd1.out.up hb9)
  replace BL := hbu BL hb9
  replace HB := hbu HB hb9
  replace HZS := sz HZS hb9.size
  clear hb9
  have d1_ := Hd1.out.c2
  by_cases hjn : j < nl
  ·have hjm : j < l.length := by rw [HM.out]; exact hjn
   obtain ⟨bm, om, rfl, hbm, hcm⟩ := (HL.out.up HB.out).at j (by rw [List.length_map]; exact hjm)
   rw [List.getElem_map] at hcm
   unfold intV at hcm
   have HP1 := Lib.hid (mapA_snoc (shT (grp k) f n) Value.string hjm)
   have HP2 := Lib.hid (mapA_snoc (snT (grp k) f n) Value.string hjm)
   have HIS := Lib.hid (fun (h : 0 ≤ l[j] ∧ l[j] ≤ 255) => show ∀ x ∈ l.take (j + 1), 0 ≤ x ∧ x ≤ 255 from fun x hx => by
    rw [List.take_succ_eq_append_getElem hjm] at hx
    rcases List.mem_append.1 hx with hx | hx
    ·exact HIN.out x hx
    ·obtain rfl := List.mem_singleton.1 hx
     exact h)
   generalize l[j] = x at *
   by_cases hx1 : x < 1
   ·have hd1 : decide (x < 1) = true := decide_eq_true hx1
    clear hx1
    go_wp2_with fail
    go_ret
    exact ⟨rfl, HB.out⟩
   have hd1 : decide (x < 1) = false := decide_eq_false hx1
   by_cases hx2 : (m : Int) < x
   ·have hd2 : decide (x > (m : Int)) = true := decide_eq_true hx2
    clear hx1 hx2
    go_wp2_with fail
    go_ret
    exact ⟨rfl, HB.out⟩
   have hd2 : decide (x > (m : Int)) = false := decide_eq_false hx2
   obtain ⟨i, hi⟩ : ∃ i : Nat, (i : Int) + 1 = x := ⟨(x - 1).toNat, by omega⟩
   have him : i < m := by omega
   have HFI := Lib.hid (fun a c W h => HF.out i him a c W h)
   have HNI := Lib.hid (fun a c W h => HSN.out i him a c W h)
   have HIS2 := Lib.hid (HIS.out (by omega))
   have HAI := Lib.hid (HSA.out i him)
   rw [hi] at HFI HNI HAI
   have hw1 : wrap64 (x - 1) = (i : Int) := by unfold wrap64; omega
   have HSI := Lib.hid (fun (W : World) (h : Below wr.heap.size wr W) => (HC2.out.up (below_up BL.out h)).atStr HAI.out)
   clear hx1 hx2 HIS hi
   have HC1R := Lib.hid (HC1.out.up BL.out)
   have BR := Lib.hid (Below.refl wr.heap.size wr)
   obtain ⟨bs, os, rfl, hbs, hcs⟩ := HSI.out _ BR.out
   go_upto_region 12 with fail
   clear hcm hbm hd1 hd2
   have HT := Lib.hid (show Below wr.heap.size wr wr.drew from (Below.refl _ _).drew)
   have hl_d1 := Hd1.out.lt
   refine wp_region_tree (fun wq9 => ∃ E : Over wr, wq9 = E.w) ((.qs [0, 1, 2, 3, 4, 5, 6, 7, 8, 9] (.a 10 (.qs [11] .done)))) (by kernel_rfl) (by kernel_rfl) (fun _ _ d _ _ h => by cases d <;> exact h) ⟨⟨_, HT.out⟩, rfl⟩ ?_
   have hov_d1 := fun (E : Over wr) o => E.cell (b := w1.heap.size) o hl_d1
   have hov_bs := fun (E : Over wr) o => E.cell (b := bs) o hbs
   simp only [Tree.qs]
   repeat (refine tree_q rfl rfl ?_; go_big_quiet_step (fail); refine wpQuiet_nil ?_)
   refine tree_a rfl (fun K hK => ?_)
   go_simp
   refine (HFI.out a1 c1 _ (HC1R.out.up HT.out)).mono ?_
   rintro e w3 ⟨rfl, hb9⟩
   replace HT := Lib.hid (below_up HT.out hb9)
   replace HZS := sz HZS (show wr.heap.size ≤ w3.heap.size from HT.out.size)
   clear hb9
   refine hK _ _ ⟨⟨⟨w3, HT.out⟩, rfl⟩, ?_⟩
   clear hK K
   repeat (refine tree_q rfl rfl ?_; go_big_quiet_step (fail); refine wpQuiet_nil ?_)
   refine tree_end ?_
   clear hov_d1 hl_d1 hov_bs d1_
   replace Hd1 := Lib.hid (Hd1.out.up HT.out)
   replace BL := hbu BL HT.out
   replace BR := hbu BR HT.out
   replace HB := hbu HB HT.out
   replace HZS := sz HZS HT.out.size
   clear HT
   have d1_ := Hd1.out.c2
   clear hcs hbs
   go_wp2_with fail
   refine (HNI.out a1 c1 w3 (HC1R.out.up BR.out)).mono ?_
   rintro e w4 ⟨rfl, hb9⟩
   clear d1_
   replace Hd1 := Lib.hid (Hd1.out.up hb9)
   replace BL := hbu BL hb9
   replace BR := hbu BR hb9
   replace HB := hbu HB hb9
   replace HZS := sz HZS hb9.size
   clear hb9
   have d1_ := Hd1.out.c2
   obtain ⟨_, _, e9, hbs, hcs⟩ := HSI.out _ BR.out
   cases e9
   replace Hr := Lib.hid (Hr.out.up BR.out)
   replace Hs := Lib.hid (Hs.out.up BR.out)
   clear BR
   have HKA := Lib.hid (Kept.refl (fun q9 => Value.ownBlock (.slice g j c9) = some q9) w4)
   obtain ⟨i9, hi9, hz90, hz91, hz92⟩ := info_parts infoStr
   go_wp2_with (at_builtin; refine wpList_pushF (w2.heap.size) w4 (by have g0 := HZS.out; omega) rfl _ _ 22 rfl 9 i9 _ 1 16 Try.underlying22 hi9 hz90 hz91 hz92 rfl (by omega) ((.slice g j c9)) (j) (((shL (grp k) f n (l.take j)).map Value.string)) rfl Hr.out _ _ _ rfl rfl rfl (by simp [Value.oneCell']) (by omega) (by unfold maxLen; omega) ?_)
   intro g5 c5 w5 hown9 hg9 hf1
   clear d1_
   have hb9 := Below.grown HB.out hg9 (by have g0 := HZS.out; omega) (fun q hq => Nat.le_trans (show w.heap.size ≤ w2.heap.size by have g0 := HZS.out; omega) (Hr.out.lt q hq).1)
   replace Hd1 := Lib.hid (Hd1.out.grown hg9 (fun e9 => by have a1 := Hr.out.lt _ e9; have g0 := HZS.out; omega))
   replace BL := Lib.hid (Below.grown BL.out hg9 (by have g0 := HZS.out; omega) (fun q hq => Nat.le_trans (show w2.heap.size ≤ w2.heap.size by have g0 := HZS.out; omega) (Hr.out.lt q hq).1))
   replace HKA := Lib.hid (Kept.grown HKA.out hg9 (fun q hq => Or.inr hq))
   replace HZS := sz HZS hg9.size
   clear Hr HB
   have Hr := Lib.hid hown9
   have HB := Lib.hid hb9
   clear hb9 hown9 hg9 hi9 hz90 hz91 hz92
   have d1_ := Hd1.out.c2
   have HF1 := Lib.hid hf1
   clear hf1
   have HT1 := Lib.hid (two_rows HF1.out HKA.out Hs.out HOF.out)
   clear HKA HF1 HOF hcs hbs
   replace Hs := Lib.hid HT1.out.1
   have HKB := Lib.hid (Kept.refl (fun q9 => Value.ownBlock (.slice g2 j c8) = some q9) w5)
   obtain ⟨i9, hi9, hz90, hz91, hz92⟩ := info_parts infoStr
   go_wp2_with (at_builtin; refine wpList_pushF (w2.heap.size) w5 (by have g0 := HZS.out; omega) rfl _ _ 22 rfl 9 i9 _ 1 16 Try.underlying22 hi9 hz90 hz91 hz92 rfl (by omega) ((.slice g2 j c8)) (j) (((snL (grp k) f n (l.take j)).map Value.string)) rfl Hs.out _ _ _ rfl rfl rfl (by simp [Value.oneCell']) (by omega) (by unfold maxLen; omega) ?_)
   intro g6 c6 w6 hown9 hg9 hf2
   clear d1_
   have hb9 := Below.grown HB.out hg9 (by have g0 := HZS.out; omega) (fun q hq => Nat.le_trans (show w.heap.size ≤ w2.heap.size by have g0 := HZS.out; omega) (Hs.out.lt q hq).1)
   replace Hd1 := Lib.hid (Hd1.out.grown hg9 (fun e9 => by have a1 := Hs.out.lt _ e9; have g0 := HZS.out; omega))
   replace BL := Lib.hid (Below.grown BL.out hg9 (by have g0 := HZS.out; omega) (fun q hq => Nat.le_trans (show w2.heap.size ≤ w2.heap.size by have g0 := HZS.out; omega) (Hs.out.lt q hq).1))
   replace HKB := Lib.hid (Kept.grown HKB.out hg9 (fun q hq => Or.inr hq))
   replace HZS := sz HZS hg9.size
   clear Hs HB
   have Hs := Lib.hid hown9
   have HB := Lib.hid hb9
   clear hb9 hown9 hg9 hi9 hz90 hz91 hz92
   have d1_ := Hd1.out.c2
   have HF2 := Lib.hid hf2
   clear hf2
   have HT2 := Lib.hid (two_rows HF2.out HKB.out Hr.out (fun q h e => HT1.out.2 q e h))
   go_wp2_with fail
   go_roundw
   case rel => exact ⟨j + 1, _, _, _, _, by omega, by go_num, rfl, rfl, BL, Lib.hid (HT2.out.1.eq HP1.out.symm rfl), Lib.hid (Hs.out.eq HP2.out.symm rfl), Lib.hid (fun q h e => HT2.out.2 q e h), HIS2⟩
   case measure => simp [intOf]; omega
  ·have hjn' : j = nl := by omega
   subst hjn'
   have HTK := Lib.hid (show l.take j = l from List.take_of_length_le (by rw [HM.out]; exact Nat.le_refl _))
   rw [HTK.out] at Hr Hs HIN
   have HSH := Lib.hid Hr.out.sl
   have HSE := Lib.hid Hs.out.sl
   have hz9 := HZ9.out
   have hz8 := HZ8.out HIN.out
   clear Hr Hs HIN HOF HTK HZ9 HZ8
   by_cases hz0 : z = 0
   case neg =>
    clear HSJ HPU
    generalize thrS (grp k) l (shL (grp k) f n l) 0 = ts at *
    generalize togS (grp k) l (snL (grp k) f n l) = us at *
    obtain rfl | rfl | rfl : z = 3 ∨ z = 2 ∨ z = 10 := by omega
    case inl | inr.inl | inr.inr =>
     clear hz9 hz8 hz0
     go_wp2_with fail
     have BR := Lib.hid (Below.refl wr.heap.size wr)
     refine (HTH.out g c9 wr (HL.out.up HB.out) HSH.out).mono ?_
     rintro e w3 ⟨rfl, hb9⟩
     clear d1_
     replace Hd1 := Lib.hid (Hd1.out.up hb9)
     replace BL := hbu BL hb9
     replace BR := hbu BR hb9
     replace HB := hbu HB hb9
     replace HZS := sz HZS hb9.size
     clear hb9
     have d1_ := Hd1.out.c2
     go_wp2_with fail
     refine (HTO.out g2 c8 w3 (HL.out.up HB.out) (HSE.out.up BR.out)).mono ?_
     rintro e w4 ⟨rfl, hb9⟩
     clear d1_
     replace Hd1 := Lib.hid (Hd1.out.up hb9)
     replace BL := hbu BL hb9
     replace BR := hbu BR hb9
     replace HB := hbu HB hb9
     replace HZS := sz HZS hb9.size
     clear hb9
     have d1_ := Hd1.out.c2
     go_wp2_with fail
     go_ret
     exact ⟨rfl, HB.out⟩
   subst hz0
   by_cases hjl : j < n
   case pos =>
    have hd9 : decide ((j : Int) < (n : Int)) = true := by simp; omega
    clear HSJ HPU hz9 hz8
    generalize thrS (grp k) l (shL (grp k) f n l) 0 = ts at *
    generalize togS (grp k) l (snL (grp k) f n l) = us at *
    go_wp2_with fail
    have BR := Lib.hid (Below.refl wr.heap.size wr)
    refine (HTH.out g c9 wr (HL.out.up HB.out) HSH.out).mono ?_
    rintro e w3 ⟨rfl, hb9⟩
    clear d1_
    replace Hd1 := Lib.hid (Hd1.out.up hb9)
    replace BL := hbu BL hb9
    replace BR := hbu BR hb9
    replace HB := hbu HB hb9
    replace HZS := sz HZS hb9.size
    clear hb9
    have d1_ := Hd1.out.c2
    go_wp2_with fail
    refine (HTO.out g2 c8 w3 (HL.out.up HB.out) (HSE.out.up BR.out)).mono ?_
    rintro e w4 ⟨rfl, hb9⟩
    clear d1_
    replace Hd1 := Lib.hid (Hd1.out.up hb9)
    replace BL := hbu BL hb9
    replace BR := hbu BR hb9
    replace HB := hbu HB hb9
    replace HZS := sz HZS hb9.size
    clear hb9
    have d1_ := Hd1.out.c2
    go_wp2_with fail
    go_ret
    exact ⟨rfl, HB.out⟩
   have hd9 : decide ((j : Int) < (n : Int)) = false := by simp; omega
   obtain ⟨e1, e2⟩ := HSJ.out rfl (by rw [HM.out]; omega)
   rw [e1] at HTH
   rw [e2] at HTO
   clear e1 e2 HSJ hz9 hz8
   have hk0 : (k0.toList == k0.toList) = true := by simp
   obtain ⟨bc, oc, rfl, hbc, hcc⟩ := (HC1.out.up BL.out).atStr HC0.out
   go_wp2_with fail
   have BR := Lib.hid (Below.refl wr.heap.size wr)
   refine (HTH.out g c9 wr (HL.out.up HB.out) HSH.out).mono ?_
   rintro e w3 ⟨rfl, hb9⟩
   clear d1_
   replace Hd1 := Lib.hid (Hd1.out.up hb9)
   replace BL := hbu BL hb9
   replace BR := hbu BR hb9
   replace HB := hbu HB hb9
   replace HZS := sz HZS hb9.size
   clear hb9
   have d1_ := Hd1.out.c2
   go_wp2_with fail
   refine (HTO.out g2 c8 w3 (HL.out.up HB.out) (HSE.out.up BR.out)).mono ?_
   rintro e w4 ⟨rfl, hb9⟩
   clear d1_
   replace Hd1 := Lib.hid (Hd1.out.up hb9)
   replace BL := hbu BL hb9
   replace BR := hbu BR hb9
   replace HB := hbu HB hb9
   replace HZS := sz HZS hb9.size
   clear hb9
   have d1_ := Hd1.out.c2
   go_wp2_with fail
   refine (HPU.out w4).mono ?_
   rintro e w5 ⟨rfl, hb9⟩
   clear d1_
   replace Hd1 := Lib.hid (Hd1.out.up hb9)
   replace BL := hbu BL hb9
   replace BR := hbu BR hb9
   replace HB := hbu HB hb9
   replace HZS := sz HZS hb9.size
   clear hb9
   have d1_ := Hd1.out.c2
   replace hcc := (BR.out.cell (p := ⟨bc, oc + 0, none⟩) hbc).trans hcc
   rw [Nat.add_zero] at hcc
   go_wp2_with fail
   go_ret
   exact ⟨rfl, HB.out⟩
theorem bulk_str {H : Type} {enc : TypeId × Value → H} {w : World} {sp : Nat → Bool} {held : Bool} {fuel : Nat} {s : ByteArray} {y : DataW H × List MemPlace} {B : Nat} (hB : Rows.uptoBulk y.1 ≤ B) (h : DataW.trod enc Try.prog w 0 sp held fuel 9 [.string s] = some y) : s.size ≤ B := by
 obtain ⟨s', hs, hy, _⟩ := DataW.trod_string Try.underlying9 h
 simp only [List.cons.injEq, and_true, Value.string.injEq] at hs
 subst hs
 rw [hy] at hB
 exact Nat.le_of_succ_le (show s.data.toList.length + 1 ≤ B from hB)
theorem trustShares_any (kind need of : Int) (seed : ByteArray) (hs : seed.size < 140737488355328) (l : List Int) (nl : Nat) (hl : l.length = nl) (hl16 : (nl + 1) * 16 ≤ 140737488355328) (al : Option Addr) (cl : Nat) (w : World) (hL : Sl w w.heap.size al (l.map intV)) :
  Calls Try.prog 8 #[.int .i64 kind, .int .i64 need, .int .i64 of, .string seed, .slice al nl cl] w fun e w' => e = .returned (.bool true) ∧ Below w.heap.size w w' := by
 by_cases hk : 1 ≤ kind ∧ kind ≤ 3
 ·obtain ⟨k, rfl⟩ : ∃ k : Nat, kind = k := ⟨kind.toNat, by omega⟩
  cases hr : rightB need of with
  | false => exact shares_bad _ need of seed 4 (Or.inr rfl) (fun w => tDeal_range k (by omega) (by omega) need of hr _ w) _ w
  | true =>
   have h9 : 1 ≤ of ∧ of ≤ 8 ∧ 1 ≤ need ∧ need ≤ of := by have h8 := hr; unfold rightB at h8; exact of_decide_eq_true h8
   obtain ⟨n, rfl⟩ : ∃ k : Nat, need = k := ⟨need.toNat, by omega⟩
   obtain ⟨m, rfl⟩ : ∃ k : Nat, of = k := ⟨of.toNat, by omega⟩
   exact shares_some k (by omega) (by omega) n m hr seed hs l nl hl hl16 al cl w hL
 ·exact shares_bad kind need of seed 1 (Or.inl rfl) (fun w => tDeal_none kind hk _ _ _ w) _ w
theorem trustShares_calls {H : Type} (enc : TypeId × Value → H) (W : World) (base : Nat) {v0 v1 v2 v3 v4 : Value} {d0 d1 d2 d3 d4 : DataW H} {p0 p1 p2 p3 p4 : List MemPlace}
  (h0 : DataW.Trod enc Try.prog W 0 (fun _ => true) true 3 v0 d0 p0) (h1 : DataW.Trod enc Try.prog W 0 (fun _ => true) true 3 v1 d1 p1) (h2 : DataW.Trod enc Try.prog W 0 (fun _ => true) true 3 v2 d2 p2) (h3 : DataW.Trod enc Try.prog W 0 (fun _ => true) true 9 v3 d3 p3) (h4 : DataW.Trod enc Try.prog W 0 (fun _ => true) true 32 v4 d4 p4)
  (k0 : Value.okWide Try.prog W .any base 3 v0) (k1 : Value.okWide Try.prog W .any base 3 v1) (k2 : Value.okWide Try.prog W .any base 3 v2) (k3 : Value.okWide Try.prog W .any base 9 v3) (k4 : Value.okWide Try.prog W .any base 32 v4)
  (_lt0 : ∀ x ∈ p0, x.block < W.heap.size) (_lt1 : ∀ x ∈ p1, x.block < W.heap.size) (_lt2 : ∀ x ∈ p2, x.block < W.heap.size) (_lt3 : ∀ x ∈ p3, x.block < W.heap.size) (_lt4 : ∀ x ∈ p4, x.block < W.heap.size)
  (hsz : Rows.uptoSmall H ([d0, d1, d2, d3, d4] ++ []) = true) :
  Calls Try.prog 8 #[v0, v1, v2, v3, v4] W fun e w' => e = .returned (.bool true) ∧ Below W.heap.size W w' := by
 obtain ⟨kind, rfl, _, _, _⟩ := open_int Try.underlying3 k0 h0
 obtain ⟨need, rfl, _, _, _⟩ := open_int Try.underlying3 k1 h1
 obtain ⟨of, rfl, _, _, _⟩ := open_int Try.underlying3 k2 h2
 obtain ⟨b4, n4, m4, rfl⟩ := okWide_slice Try.underlying32 k4
 obtain ⟨f3, h3⟩ := h3
 obtain ⟨f4, h4⟩ := h4
 obtain ⟨s, rfl, _⟩ := Go.ChangeMaps.open_string Try.underlying9 k3 ⟨f3, h3⟩
 have hB : Rows.uptoBulkAll [d0, d1, d2, d3, d4] ≤ 1048576 := of_decide_eq_true hsz
 have hB3 := Nat.le_trans (bulk_part (d := d3) (l := [d0, d1, d2, d3, d4]) (by simp)) hB
 have hB4 := Nat.le_trans (bulk_part (d := d4) (l := [d0, d1, d2, d3, d4]) (by simp)) hB
 obtain ⟨al, cl, ls, e4, hl, hS4, _, hn4⟩ := open_intsB hB4 h4
 rw [e4]
 exact trustShares_any kind need of s (by have h9 := bulk_str hB3 h3; omega) ls _ rfl (by omega) al cl W hS4
theorem trustShares_lifted (os : Os) (started : os.Started) (H : Type) (enc : TypeId × Value → H) (F : Stop.Interp) :
  ReturnsInHanded {} Try.checked os 8 .any ((Rows.OpenSpec.upto Rows.trustSharesSpec).pre6 enc Try.prog Try.f8 Rows.trustSharesUptoRow.domain false) (((Rows.OpenSpec.upto Rows.trustSharesSpec).at F).post enc Try.prog Try.f8 false true false false) := by
 refine returnsInHanded_of_cond (C := Try.checked) (s := Rows.OpenSpec.upto Rows.trustSharesSpec) (k := Rows.uptoSmall) rfl law_own started (by kernel_rfl) Try.func8
  (OpenSpec.witness (enc := enc) (C := Try.checked) (s := Rows.OpenSpec.upto Rows.trustSharesSpec) (k := Rows.uptoSmall) rfl false ⟨#[], #[.int .i64 0, .int .i64 0, .int .i64 0, .string ⟨#[]⟩, .slice none 0 0], []⟩ 8 (by kernel_rfl) (by kernel_rfl) (by kernel_rfl)
   (x := ([.lit (.int .i64 0), .lit (.int .i64 0), .lit (.int .i64 0), .lit (.string []), .nil], [], [])) (by kernel_rfl) rfl (by kernel_rfl)) ?_
 intro W base args ds gs before hval0 hW _ hsz0 _
 have hsz : Rows.uptoSmall H (ds ++ gs) = true := hsz0
 clear hsz0
 have hval : ∀ (j : Nat) t v, Try.f8.params[j]? = some t → args[j]? = some v → Value.okWide Try.prog W .any base t v := hval0
 have hW' := hW
 obtain ⟨p, q, hA0, hV, rfl, _, _⟩ := hW
 have hA : DataW.TrodAll enc Try.prog W 0 (fun _ => true) true Try.f8.params.toList args.toList ds p := hA0
 rw [Try.params8] at hA hval
 obtain ⟨v0, vs0, d0, ds0, p0, q0, hargs, rfl, rfl, h0, r0⟩ := trodAll_cons hA
 obtain ⟨v1, vs1, d1, ds1, p1, q1, rfl, rfl, rfl, h1, r1⟩ := trodAll_cons r0
 obtain ⟨v2, vs2, d2, ds2, p2, q2, rfl, rfl, rfl, h2, r2⟩ := trodAll_cons r1
 obtain ⟨v3, vs3, d3, ds3, p3, q3, rfl, rfl, rfl, h3, r3⟩ := trodAll_cons r2
 obtain ⟨v4, vs4, d4, ds4, p4, q4, rfl, rfl, rfl, h4, r4⟩ := trodAll_cons r3
 obtain ⟨rfl, rfl, rfl⟩ := trodAll_nil r4
 obtain rfl : args = #[v0, v1, v2, v3, v4] := by cases args; simp_all
 obtain ⟨rfl, rfl⟩ := trodVars_none hV
 have lt0 : ∀ x ∈ p0, x.block < W.heap.size := by obtain ⟨m, hm⟩ := h0; exact DataW.trod_lt m _ _ _ hm
 have lt1 : ∀ x ∈ p1, x.block < W.heap.size := by obtain ⟨m, hm⟩ := h1; exact DataW.trod_lt m _ _ _ hm
 have lt2 : ∀ x ∈ p2, x.block < W.heap.size := by obtain ⟨m, hm⟩ := h2; exact DataW.trod_lt m _ _ _ hm
 have lt3 : ∀ x ∈ p3, x.block < W.heap.size := by obtain ⟨m, hm⟩ := h3; exact DataW.trod_lt m _ _ _ hm
 have lt4 : ∀ x ∈ p4, x.block < W.heap.size := by obtain ⟨m, hm⟩ := h4; exact DataW.trod_lt m _ _ _ hm
 clear hA0 hval0
 refine (trustShares_calls enc W base h0 h1 h2 h3 h4 (hval 0 3 v0 rfl rfl) (hval 1 3 v1 rfl rfl) (hval 2 3 v2 rfl rfl) (hval 3 9 v3 rfl rfl) (hval 4 32 v4 rfl rfl) lt0 lt1 lt2 lt3 lt4 hsz).mono fun e W' ⟨he, bel⟩ => ?_
 subst he
 exact ⟨_, rfl, _, _, _, [], _, [], hW', trodAll_mk1 (shut_bool Try.underlying4 _), (trodAll_cons_mk (Below.trod law_laidOut (by kernel_rfl) (of_decide_eq_true (by kernel_rfl)) h0 bel lt0) (trodAll_cons_mk (Below.trod law_laidOut (by kernel_rfl) (of_decide_eq_true (by kernel_rfl)) h1 bel lt1) (trodAll_cons_mk (Below.trod law_laidOut (by kernel_rfl) (of_decide_eq_true (by kernel_rfl)) h2 bel lt2) (trodAll_cons_mk (Below.trod law_laidOut (by kernel_rfl) (of_decide_eq_true (by kernel_rfl)) h3 bel lt3) (trodAll_cons_mk (Below.trod law_laidOut (by kernel_rfl) (of_decide_eq_true (by kernel_rfl)) h4 bel lt4) trodAll_mk0))))), rfl, bel.frame _, fun h => by cases h⟩
theorem trustShares_holds : Rows.TrustSharesUptoSaid :=
 OpenClaim.holds_of_cond 8 Try.f8 rfl rfl rfl rfl rfl rfl rfl ⟨rfl, rfl, rfl, rfl, rfl⟩ rfl rfl rfl rfl rfl (by kernel_rfl) Try.func8 (by kernel_rfl)
  (of_decide_eq_true (by kernel_rfl)) (by unfold Func.isWrapper; first | (rw [if_pos (by decide +kernel)]; kernel_rfl) | (rw [if_neg (by decide +kernel)]; exact ⟨rfl, rfl⟩))
  (fun os started H enc _ F => trustShares_lifted os started H enc F)
#print axioms trustShares_holds
end Go.Proofs.Ytjmeakfjfpnciaa
