/- TrustHides: fewer shares than are needed tell nothing. Condition: no more in hand than the small bound of the row allows. -/
import Derived.Test.YtjmeakfjfpnciaaZTrustHides2
import Derived.ChangeMaps

set_option maxRecDepth 100000
set_option maxHeartbeats 4000000
set_option linter.unusedVariables false
set_option linter.unusedSimpArgs false
namespace Go.Proofs.Ytjmeakfjfpnciaa
open Go.RowKit
end Go.Proofs.Ytjmeakfjfpnciaa
namespace Go.Proofs.Ytjmeakfjfpnciaa
open Go.ChangeShapes Go.WideShapes Go.ChangeAt Go.RowKit
theorem bulk_one {H : Type} (d : DataW H) : 1 ≤ Rows.uptoBulk d := by
 cases d with
 | lit l => cases l <;> simp [Rows.uptoBulk]
 | nil => simp [Rows.uptoBulk]
 | ptr d => simp [Rows.uptoBulk]
 | slice elems spare => simp [Rows.uptoBulk]
 | agg parts => simp [Rows.uptoBulk]
 | iface t d => simp [Rows.uptoBulk]
 | map entries => simp [Rows.uptoBulk]
 | held h => simp [Rows.uptoBulk]
theorem bulk_part {H : Type} {d : DataW H} {l : List (DataW H)} (h : d ∈ l) : Rows.uptoBulk d ≤ Rows.uptoBulkAll l := by
 induction l with
 | nil => cases h
 | cons x r ih =>
  simp only [Rows.uptoBulkAll]
  rcases List.mem_cons.1 h with rfl | e
  ·omega
  ·have := ih e; omega
theorem bulk_length {H : Type} (l : List (DataW H)) : l.length ≤ Rows.uptoBulkAll l := by
 induction l with
 | nil => simp [Rows.uptoBulkAll]
 | cons x r ih => have := bulk_one x; simp only [Rows.uptoBulkAll, List.length_cons]; omega
theorem bulk_slice {H : Type} {elems spare : List (DataW H)} {B : Nat} (h : Rows.uptoBulk (.slice elems spare) ≤ B) : elems.length ≤ B ∧ ∀ d ∈ elems, Rows.uptoBulk d ≤ B := by
 simp only [Rows.uptoBulk] at h
 refine ⟨by have := bulk_length elems; omega, fun d hd => by have := bulk_part hd; omega⟩
theorem flat_range (g : Nat → Value) (k len : Nat) : ((List.range len).map fun i => (List.range k).map fun j => g (i * k + j)).flatten = (List.range (len * k)).map g := by
 induction len with
 | zero => simp
 | succ m ih =>
  rw [List.range_succ, List.map_append, List.flatten_append, ih, Nat.succ_mul, List.range_add, List.map_append]
  simp [List.map_map, Function.comp_def]
section
variable {H : Type} {enc : TypeId × Value → H} {P : Program} {w : World}
theorem open_flat {sp : Nat → Bool} {held : Bool} {t e : TypeId} {k fuel : Nat} {c : Value} {y : DataW H × List MemPlace} (ht : P.underlying t = some (.slice e)) (hk : P.cellsOf e = k) (hk0 : 0 < k) {B : Nat} (hB : Rows.uptoBulk y.1 ≤ B)
  (h : DataW.trod enc P w 0 sp held fuel t [c] = some y) :
  ∃ (a : Option Addr) (cap : Nat) (css : List (List Value)), c = .slice a css.length cap ∧ css.length ≤ B ∧ (∀ l ∈ css, l.length = k) ∧ Sl w w.heap.size a css.flatten ∧
   ∀ l ∈ css, ∃ n y', Rows.uptoBulk y'.1 ≤ B ∧ DataW.trod enc P w 0 sp held n e l = some y' := by
 have hlt := DataW.trod_lt _ _ _ _ h
 rcases DataW.trod_slice ht h with ⟨hcs, _⟩ | ⟨x, len, cap, elems, rest, n, _, hcs, hx, hb, hl, hm, hlen, hel, _, _⟩
 ·simp only [List.cons.injEq, and_true] at hcs
  exact ⟨none, 0, [], hcs, by simp, by simp, Or.inl rfl, by simp⟩
 simp only [List.cons.injEq, and_true] at hcs
 subst hcs
 by_cases h0 : len = 0
 ·subst h0
  exact ⟨some x, cap, [], rfl, by simp, by simp, Or.inl rfl, by simp⟩
 have hbk := bulk_slice (elems := elems.map (·.1)) (spare := rest.map (·.1)) (B := B) (by rw [hx] at hB; exact hB)
 have each : ∀ i, i < len → ∃ l y', w.cells? 0 (x.add (i * k)) k = some l ∧ Rows.uptoBulk y'.1 ≤ B ∧ DataW.trod enc P w 0 sp held n e l = some y' := by
  intro i hi
  have h1 := hel i hi
  rw [hk, show elems[i]? = some (elems[i]'(by omega)) from List.getElem?_eq_getElem (by omega), Option.bind_eq_some_iff] at h1
  obtain ⟨l, hl, hy⟩ := h1
  exact ⟨l, _, hl, hbk.2 _ (List.mem_map.2 ⟨_, List.getElem_mem _, rfl⟩), hy⟩
 obtain ⟨b, off, spot⟩ := x
 have hspot : spot = none := by
  obtain ⟨l, _, h1, _⟩ := each 0 (by omega)
  obtain ⟨_, h2, h3⟩ := World.cells?_some h1
  have h4 := h3 0 hk0
  obtain ⟨v, hv⟩ : ∃ v, l[0]? = some v := ⟨_, List.getElem?_eq_getElem (by omega)⟩
  rw [hv, Deep.add_add, Nat.zero_mul, Nat.zero_add] at h4
  simpa [Addr.add] using World.cell?_spot h4
 subst hspot
 have hbW : b < w.heap.size := hlt (.cell b off) (by
  rw [hx]
  exact List.mem_append_left _ (MemPlace.mem_row.2 ⟨0, by rw [hk]; have : 0 < (elems.length + rest.length) * k := Nat.mul_pos (by omega) hk0; omega, by simp⟩))
 have hL : ∀ i, i < len → ((List.range k).map fun j => (w.cell? ⟨b, off + (i * k + j), none⟩).getD (.bool false)).length = k ∧
   (∀ j, j < k → w.cell? ⟨b, off + (i * k + j), none⟩ = some ((w.cell? ⟨b, off + (i * k + j), none⟩).getD (.bool false))) ∧
   ∃ y', Rows.uptoBulk y'.1 ≤ B ∧ DataW.trod enc P w 0 sp held n e ((List.range k).map fun j => (w.cell? ⟨b, off + (i * k + j), none⟩).getD (.bool false)) = some y' := by
  intro i hi
  obtain ⟨l, y', h1, h2b, h2⟩ := each i hi
  obtain ⟨_, h3, h4⟩ := World.cells?_some h1
  have h5 : ∀ j, j < k → w.cell? ⟨b, off + (i * k + j), none⟩ = l[j]? := by
   intro j hj
   have := h4 j hj
   rwa [Deep.add_add, add_plain] at this
  have e1 : (List.range k).map (fun j => (w.cell? ⟨b, off + (i * k + j), none⟩).getD (.bool false)) = l := by
   apply List.ext_getElem?
   intro j
   by_cases hj : j < k
   ·rw [List.getElem?_map, List.getElem?_range hj, Option.map_some, h5 j hj, List.getElem?_eq_getElem (show j < l.length by omega), Option.getD_some]
   ·rw [List.getElem?_eq_none (by simp; omega), List.getElem?_eq_none (by omega)]
  refine ⟨by simp, ?_, ?_⟩
  ·intro j hj
   rw [h5 j hj, List.getElem?_eq_getElem (show j < l.length by omega), Option.getD_some]
  ·rw [e1]; exact ⟨y', h2b, h2⟩
 refine ⟨some ⟨b, off, none⟩, cap, (List.range len).map fun i => (List.range k).map fun j => (w.cell? ⟨b, off + (i * k + j), none⟩).getD (.bool false), by simp, ?_, ?_, Or.inr ⟨b, off, rfl, hbW, ?_⟩, ?_⟩
 ·have := hbk.1; rw [List.length_map] at this; simp; omega
 ·intro l hl
  obtain ⟨i, _, rfl⟩ := List.mem_map.1 hl
  simp
 ·have hflat := flat_range (fun m => (w.cell? ⟨b, off + m, none⟩).getD (.bool false)) k len
  intro i v hv
  rw [hflat] at hv
  have hi : i < len * k := by have := (List.getElem?_eq_some_iff.1 hv).1; simpa using this
  have hq : i / k < len := Nat.div_lt_of_lt_mul (by rwa [Nat.mul_comm] at hi)
  have hc := (hL (i / k) hq).2.1 (i % k) (Nat.mod_lt _ hk0)
  rw [show i / k * k + i % k = i by rw [Nat.mul_comm]; exact Nat.div_add_mod i k] at hc
  rw [hc, ← hv, List.getElem?_map, List.getElem?_range hi, Option.map_some]
 ·intro l hl
  obtain ⟨i, hi, rfl⟩ := List.mem_map.1 hl
  obtain ⟨y', hyb, hy⟩ := (hL i (List.mem_range.1 hi)).2.2
  exact ⟨n, y', hyb, hy⟩
theorem list_shapes {α : Type} (f : α → List Value) (R : α → Prop) : ∀ css : List (List Value), (∀ l ∈ css, ∃ x, l = f x ∧ R x) → ∃ xs : List α, xs.length = css.length ∧ css.flatten = xs.flatMap f ∧ ∀ x ∈ xs, R x
 | [], _ => ⟨[], rfl, rfl, by simp⟩
 | l :: css, h => by
  obtain ⟨x, rfl, hR⟩ := h l (by simp)
  obtain ⟨xs, h1, h2, h3⟩ := list_shapes f R css (fun c hc => h c (by simp [hc]))
  refine ⟨x :: xs, by simp [h1], by simp [h2], ?_⟩
  intro y hy
  rcases List.mem_cons.1 hy with rfl | hy
  ·exact hR
  ·exact h3 y hy
theorem open_els {α : Type} (f : α → List Value) (R : α → Prop) {sp : Nat → Bool} {held : Bool} {t e : TypeId} {k fuel : Nat} {c : Value} {y : DataW H × List MemPlace} (ht : P.underlying t = some (.slice e)) (hk : P.cellsOf e = k) (hk0 : 0 < k) {B : Nat} (hB : Rows.uptoBulk y.1 ≤ B)
  (hel : ∀ n l y', l.length = k → Rows.uptoBulk y'.1 ≤ B → DataW.trod enc P w 0 sp held n e l = some y' → ∃ x, l = f x ∧ R x) (h : DataW.trod enc P w 0 sp held fuel t [c] = some y) :
  ∃ (a : Option Addr) (cap : Nat) (xs : List α), c = .slice a xs.length cap ∧ xs.length ≤ B ∧ Sl w w.heap.size a (xs.flatMap f) ∧ ∀ x ∈ xs, R x := by
 obtain ⟨a, cap, css, rfl, hlB, hl, hs, he⟩ := open_flat ht hk hk0 hB h
 obtain ⟨xs, h1, h2, h3⟩ := list_shapes f R css (fun l hm => by
  obtain ⟨n, y', hyb, hy⟩ := he l hm
  exact hel n l y' (hl l hm) hyb hy)
 exact ⟨a, cap, xs, by rw [h1], by omega, h2 ▸ hs, h3⟩
theorem open_str {sp : Nat → Bool} {held : Bool} {t : TypeId} {fuel : Nat} {c : Value} {y : DataW H × List MemPlace} (ht : P.underlying t = some .string) (h : DataW.trod enc P w 0 sp held fuel t [c] = some y) : ∃ s : ByteArray, c = .string s := by
 obtain ⟨s, hs, _⟩ := DataW.trod_string ht h
 simp only [List.cons.injEq, and_true] at hs
 exact ⟨s, hs⟩
theorem open_strs {sp : Nat → Bool} {held : Bool} {t e : TypeId} {fuel : Nat} {c : Value} {y : DataW H × List MemPlace} (ht : P.underlying t = some (.slice e)) (he : P.underlying e = some .string) (hk : P.cellsOf e = 1) {B : Nat} (hB : Rows.uptoBulk y.1 ≤ B) (h : DataW.trod enc P w 0 sp held fuel t [c] = some y) :
  ∃ (a : Option Addr) (cap : Nat) (bs : List ByteArray), c = .slice a bs.length cap ∧ bs.length ≤ B ∧ Sl w w.heap.size a (bs.map Value.string) := by
 obtain ⟨a, cap, xs, h1, hb, h2, _⟩ := open_els (fun s : ByteArray => [Value.string s]) (fun _ => True) ht hk (by omega) hB (fun n l y' hl _ hy => by
  match l, hl with
  | [c'], _ =>
   obtain ⟨s, rfl⟩ := open_str he hy
   exact ⟨s, rfl, trivial⟩) h
 refine ⟨a, cap, xs, h1, hb, ?_⟩
 rw [← List.flatMap_singleton' (xs.map Value.string), List.flatMap_map]
 exact h2
end
end Go.Proofs.Ytjmeakfjfpnciaa
namespace Go.Proofs.Ytjmeakfjfpnciaa
open Go.ChangeShapes Go.WideShapes Go.ChangeAt Go.RowKit
def Wt {H : Type} (P : Program) (t : TypeId) (d : DataW H) : Prop := ∀ n ∈ DataW.weights P t d, n ≤ reachBytes
theorem weightsAll_mem {H : Type} {P : Program} {e : TypeId} : ∀ {l : List (DataW H)} {d : DataW H}, d ∈ l → ∀ n ∈ DataW.weights P e d, n ∈ DataW.weightsAll P e l
 | x :: l, d, hd, n, hn => by
  simp only [DataW.weightsAll, List.mem_append]
  rcases List.mem_cons.1 hd with rfl | h
  ·exact Or.inl hn
  ·exact Or.inr (weightsAll_mem h n hn)
theorem Wt.slice {H : Type} {P : Program} {t e : TypeId} {elems spare : List (DataW H)} (ht : P.underlying t = some (.slice e)) (h : Wt P t (.slice elems spare)) : elems.length * P.bytesOf e ≤ reachBytes ∧ ∀ d ∈ elems, Wt P e d := by
 unfold Wt at h
 simp only [DataW.weights, ht, List.mem_cons, List.mem_append] at h
 refine ⟨Nat.le_trans (Nat.mul_le_mul_right _ (Nat.le_add_right _ _)) (h _ (Or.inl rfl)), fun d hd n hn => h n (Or.inr (Or.inl (weightsAll_mem hd n hn)))⟩
section
variable {H : Type} {enc : TypeId × Value → H} {P : Program} {w : World}
theorem open_flatW {sp : Nat → Bool} {held : Bool} {t e : TypeId} {k fuel : Nat} {c : Value} {y : DataW H × List MemPlace} (ht : P.underlying t = some (.slice e)) (hk : P.cellsOf e = k) (hk0 : 0 < k) (hW : Wt P t y.1)
  (h : DataW.trod enc P w 0 sp held fuel t [c] = some y) :
  ∃ (a : Option Addr) (cap : Nat) (css : List (List Value)), c = .slice a css.length cap ∧ css.length * P.bytesOf e ≤ reachBytes ∧ (a = none → cap = 0) ∧ (∀ l ∈ css, l.length = k) ∧ Sl w w.heap.size a css.flatten ∧
   ∀ l ∈ css, ∃ n y', Wt P e y'.1 ∧ DataW.trod enc P w 0 sp held n e l = some y' := by
 have hlt := DataW.trod_lt _ _ _ _ h
 rcases DataW.trod_slice ht h with ⟨hcs, _⟩ | ⟨x, len, cap, elems, rest, n, _, hcs, hx, hb, hl, hm, hlen, hel, _, _⟩
 ·simp only [List.cons.injEq, and_true] at hcs
  exact ⟨none, 0, [], hcs, by simp, fun _ => rfl, by simp, Or.inl rfl, by simp⟩
 simp only [List.cons.injEq, and_true] at hcs
 subst hcs
 by_cases h0 : len = 0
 ·subst h0
  exact ⟨some x, cap, [], rfl, by simp, by simp, by simp, Or.inl rfl, by simp⟩
 have hbk := Wt.slice (elems := elems.map (·.1)) (spare := rest.map (·.1)) ht (by rw [hx] at hW; exact hW)
 have each : ∀ i, i < len → ∃ l y', w.cells? 0 (x.add (i * k)) k = some l ∧ Wt P e y'.1 ∧ DataW.trod enc P w 0 sp held n e l = some y' := by
  intro i hi
  have h1 := hel i hi
  rw [hk, show elems[i]? = some (elems[i]'(by omega)) from List.getElem?_eq_getElem (by omega), Option.bind_eq_some_iff] at h1
  obtain ⟨l, hl, hy⟩ := h1
  exact ⟨l, _, hl, hbk.2 _ (List.mem_map.2 ⟨_, List.getElem_mem _, rfl⟩), hy⟩
 obtain ⟨b, off, spot⟩ := x
 have hspot : spot = none := by
  obtain ⟨l, _, h1, _⟩ := each 0 (by omega)
  obtain ⟨_, h2, h3⟩ := World.cells?_some h1
  have h4 := h3 0 hk0
  obtain ⟨v, hv⟩ : ∃ v, l[0]? = some v := ⟨_, List.getElem?_eq_getElem (by omega)⟩
  rw [hv, Deep.add_add, Nat.zero_mul, Nat.zero_add] at h4
  simpa [Addr.add] using World.cell?_spot h4
 subst hspot
 have hbW : b < w.heap.size := hlt (.cell b off) (by
  rw [hx]
  exact List.mem_append_left _ (MemPlace.mem_row.2 ⟨0, by rw [hk]; have : 0 < (elems.length + rest.length) * k := Nat.mul_pos (by omega) hk0; omega, by simp⟩))
 have hL : ∀ i, i < len → ((List.range k).map fun j => (w.cell? ⟨b, off + (i * k + j), none⟩).getD (.bool false)).length = k ∧
   (∀ j, j < k → w.cell? ⟨b, off + (i * k + j), none⟩ = some ((w.cell? ⟨b, off + (i * k + j), none⟩).getD (.bool false))) ∧
   ∃ y', Wt P e y'.1 ∧ DataW.trod enc P w 0 sp held n e ((List.range k).map fun j => (w.cell? ⟨b, off + (i * k + j), none⟩).getD (.bool false)) = some y' := by
  intro i hi
  obtain ⟨l, y', h1, h2b, h2⟩ := each i hi
  obtain ⟨_, h3, h4⟩ := World.cells?_some h1
  have h5 : ∀ j, j < k → w.cell? ⟨b, off + (i * k + j), none⟩ = l[j]? := by
   intro j hj
   have := h4 j hj
   rwa [Deep.add_add, add_plain] at this
  have e1 : (List.range k).map (fun j => (w.cell? ⟨b, off + (i * k + j), none⟩).getD (.bool false)) = l := by
   apply List.ext_getElem?
   intro j
   by_cases hj : j < k
   ·rw [List.getElem?_map, List.getElem?_range hj, Option.map_some, h5 j hj, List.getElem?_eq_getElem (show j < l.length by omega), Option.getD_some]
   ·rw [List.getElem?_eq_none (by simp; omega), List.getElem?_eq_none (by omega)]
  refine ⟨by simp, ?_, ?_⟩
  ·intro j hj
   rw [h5 j hj, List.getElem?_eq_getElem (show j < l.length by omega), Option.getD_some]
  ·rw [e1]; exact ⟨y', h2b, h2⟩
 refine ⟨some ⟨b, off, none⟩, cap, (List.range len).map fun i => (List.range k).map fun j => (w.cell? ⟨b, off + (i * k + j), none⟩).getD (.bool false), by simp, ?_, by simp, ?_, Or.inr ⟨b, off, rfl, hbW, ?_⟩, ?_⟩
 ·have := hbk.1; rw [List.length_map, hlen] at this; simpa using this
 ·intro l hl
  obtain ⟨i, _, rfl⟩ := List.mem_map.1 hl
  simp
 ·have hflat := flat_range (fun m => (w.cell? ⟨b, off + m, none⟩).getD (.bool false)) k len
  intro i v hv
  rw [hflat] at hv
  have hi : i < len * k := by have := (List.getElem?_eq_some_iff.1 hv).1; simpa using this
  have hq : i / k < len := Nat.div_lt_of_lt_mul (by rwa [Nat.mul_comm] at hi)
  have hc := (hL (i / k) hq).2.1 (i % k) (Nat.mod_lt _ hk0)
  rw [show i / k * k + i % k = i by rw [Nat.mul_comm]; exact Nat.div_add_mod i k] at hc
  rw [hc, ← hv, List.getElem?_map, List.getElem?_range hi, Option.map_some]
 ·intro l hl
  obtain ⟨i, hi, rfl⟩ := List.mem_map.1 hl
  obtain ⟨y', hyb, hy⟩ := (hL i (List.mem_range.1 hi)).2.2
  exact ⟨n, y', hyb, hy⟩
theorem open_elsW {α : Type} (f : α → List Value) (R : α → Prop) {sp : Nat → Bool} {held : Bool} {t e : TypeId} {k fuel : Nat} {c : Value} {y : DataW H × List MemPlace} (ht : P.underlying t = some (.slice e)) (hk : P.cellsOf e = k) (hk0 : 0 < k) (hW : Wt P t y.1)
  (hel : ∀ n l y', l.length = k → Wt P e y'.1 → DataW.trod enc P w 0 sp held n e l = some y' → ∃ x, l = f x ∧ R x) (h : DataW.trod enc P w 0 sp held fuel t [c] = some y) :
  ∃ (a : Option Addr) (cap : Nat) (xs : List α), c = .slice a xs.length cap ∧ xs.length * P.bytesOf e ≤ reachBytes ∧ (a = none → cap = 0) ∧ Sl w w.heap.size a (xs.flatMap f) ∧ ∀ x ∈ xs, R x := by
 obtain ⟨a, cap, css, rfl, hlB, hno, hl, hs, he⟩ := open_flatW ht hk hk0 hW h
 obtain ⟨xs, h1, h2, h3⟩ := list_shapes f R css (fun l hm => by
  obtain ⟨n, y', hyb, hy⟩ := he l hm
  exact hel n l y' (hl l hm) hyb hy)
 exact ⟨a, cap, xs, by rw [h1], by rw [h1]; exact hlB, hno, h2 ▸ hs, h3⟩
end
end Go.Proofs.Ytjmeakfjfpnciaa
namespace Go.Proofs.Ytjmeakfjfpnciaa
open Go.ChangeShapes Go.WideShapes Go.ChangeAt Go.RowKit
theorem str7_cells : Try.prog.cellsOf 9 = 1 := by kernel_rfl
end Go.Proofs.Ytjmeakfjfpnciaa
namespace Go.Proofs.Ytjmeakfjfpnciaa
open Go.ChangeShapes Go.WideShapes Go.ChangeAt Go.RowKit
theorem ints6_cells : Try.prog.cellsOf 3 = 1 := by kernel_rfl
theorem ints6_bytes : Try.prog.bytesOf 3 = 8 := by kernel_rfl
theorem open_intsC {H : Type} {enc : TypeId × Value → H} {w : World} {sp : Nat → Bool} {held : Bool} {fuel : Nat} {c : Value} {y : DataW H × List MemPlace} (hW : Wt Try.prog 32 y.1) (h : DataW.trod enc Try.prog w 0 sp held fuel 32 [c] = some y) :
  ∃ (a : Option Addr) (cap : Nat) (xs : List Int), c = .slice a xs.length cap ∧ xs.length * 8 ≤ reachBytes ∧ Sl w w.heap.size a (xs.map fun x => Value.int .i64 x) ∧ (∀ x ∈ xs, -9223372036854775808 ≤ x ∧ x ≤ 9223372036854775807) ∧ (a = none → cap = 0) := by
 obtain ⟨a, cap, xs, h1, hb, hno, h2, h3⟩ := open_elsW (fun x : Int => [Value.int .i64 x]) (fun x => -9223372036854775808 ≤ x ∧ x ≤ 9223372036854775807) Try.underlying32 ints6_cells (by omega) hW (fun n l y' hl hw hy => by
  match l, hl with
  | [c'], _ =>
   obtain ⟨x, hc9, _, hx⟩ := DataW.trod_int Try.underlying3 hy
   refine ⟨x, hc9, ?_⟩
   simp only [Lit.wf, Bool.and_eq_true, decide_eq_true_eq] at hx
   exact hx) h
 rw [ints6_bytes] at hb
 refine ⟨a, cap, xs, h1, hb, ?_, h3, hno⟩
 rw [← List.flatMap_singleton' (xs.map fun x => Value.int .i64 x), List.flatMap_map]
 exact h2
theorem open_no {H : Type} {enc : TypeId × Value → H} {w : World} {sp : Nat → Bool} {held : Bool} {fuel : Nat} {t e : TypeId} {a : Option Addr} {n cap : Nat} {y : DataW H × List MemPlace} (ht : Try.prog.underlying t = some (.slice e)) (h : DataW.trod enc Try.prog w 0 sp held fuel t [.slice a n cap] = some y) : a = none → cap = 0 := by
 intro e9
 rcases DataW.trod_slice ht h with ⟨hcs, _⟩ | ⟨x, l, c, elems, rest, n9, _, hcs, _⟩
 ·simp only [List.cons.injEq, Value.slice.injEq, and_true] at hcs
  exact hcs.2.2
 ·simp only [List.cons.injEq, Value.slice.injEq, and_true] at hcs
  rw [e9] at hcs
  cases hcs.1
theorem open_intsB {H : Type} {enc : TypeId × Value → H} {w : World} {sp : Nat → Bool} {held : Bool} {fuel : Nat} {c : Value} {y : DataW H × List MemPlace} {B : Nat} (hB : Rows.uptoBulk y.1 ≤ B) (h : DataW.trod enc Try.prog w 0 sp held fuel 32 [c] = some y) :
  ∃ (a : Option Addr) (cap : Nat) (xs : List Int), c = .slice a xs.length cap ∧ xs.length ≤ B ∧ Sl w w.heap.size a (xs.map fun x => Value.int .i64 x) ∧ (∀ x ∈ xs, -9223372036854775808 ≤ x ∧ x ≤ 9223372036854775807) ∧ (a = none → cap = 0) := by
 obtain ⟨a, cap, xs, h1, hb, h2, h3⟩ := open_els (fun x : Int => [Value.int .i64 x]) (fun x => -9223372036854775808 ≤ x ∧ x ≤ 9223372036854775807) Try.underlying32 ints6_cells (by omega) hB (fun n l y' hl hw hy => by
  match l, hl with
  | [c'], _ =>
   obtain ⟨x, hc9, _, hx⟩ := DataW.trod_int Try.underlying3 hy
   refine ⟨x, hc9, ?_⟩
   simp only [Lit.wf, Bool.and_eq_true, decide_eq_true_eq] at hx
   exact hx) h
 refine ⟨a, cap, xs, h1, hb, ?_, h3, open_no (a := a) (n := xs.length) Try.underlying32 (h1 ▸ h)⟩
 rw [← List.flatMap_singleton' (xs.map fun x => Value.int .i64 x), List.flatMap_map]
 exact h2
theorem open_strsB {H : Type} {enc : TypeId × Value → H} {w : World} {sp : Nat → Bool} {held : Bool} {fuel : Nat} {c : Value} {y : DataW H × List MemPlace} {B : Nat} (hB : Rows.uptoBulk y.1 ≤ B) (h : DataW.trod enc Try.prog w 0 sp held fuel 22 [c] = some y) :
  ∃ (a : Option Addr) (cap : Nat) (xs : List ByteArray), c = .slice a xs.length cap ∧ xs.length ≤ B ∧ Sl w w.heap.size a (xs.map Value.string) ∧ (a = none → cap = 0) := by
 obtain ⟨a, cap, xs, h1, hb, h2⟩ := open_strs Try.underlying22 Try.underlying9 str7_cells hB h
 exact ⟨a, cap, xs, h1, hb, h2, open_no (a := a) (n := xs.length) Try.underlying22 (h1 ▸ h)⟩
end Go.Proofs.Ytjmeakfjfpnciaa
namespace Go.Proofs.Ytjmeakfjfpnciaa
open Go.ChangeShapes Go.WideShapes Go.ChangeAt Go.RowKit
theorem infoInt6 : (Try.prog.info? 3).map (fun i => (i.zero, i.size, i.bytes)) = some (some (.int .i64 0), 1, 8) := by kernel_rfl
def thE (kind : Int) (l : List Int) (xs : List ByteArray) (x : Int) : Nat := if 1 ≤ kind ∧ kind ≤ 3 then thrE (grp kind.toNat) l xs x else 1
def thS (kind : Int) (l : List Int) (xs : List ByteArray) (x : Int) : ByteArray := if 1 ≤ kind ∧ kind ≤ 3 then thrS (grp kind.toNat) l xs x else ⟨#[]⟩
theorem through_any (kind : Int) (l : List Int) (n : Nat) (hn : l.length = n) (hnm : n ≤ 1152921504606846975) (xs : List ByteArray) (m : Nat) (hm : xs.length = m) (x : Int) (al ax : Option Addr) (cl cx : Nat) (w : World) (hL : Sl w w.heap.size al (l.map intV)) (hX : Sl w w.heap.size ax (xs.map Value.string)) :
  Calls Try.prog 16 #[.int .i64 kind, .slice al n cl, .slice ax m cx, .int .i64 x] w (Gives (.tuple #[.string (thS kind l xs x), .int .i64 (thE kind l xs x : Int)]) w) := by
 unfold thS thE
 by_cases hk : 1 ≤ kind ∧ kind ≤ 3
 ·rw [if_pos hk, if_pos hk]
  obtain ⟨k, rfl⟩ : ∃ k : Nat, kind = k := ⟨kind.toNat, by omega⟩
  exact through_some k (by omega) (by omega) l n hn hnm xs m hm x al ax cl cx w hL hX
 ·rw [if_neg hk, if_neg hk]
  exact through_none kind hk _ _ x w
theorem thE_cases (kind : Int) (l : List Int) (xs : List ByteArray) (x : Int) : thE kind l xs x = 0 ∨ thE kind l xs x = 1 ∨ thE kind l xs x = 3 ∨ thE kind l xs x = 2 ∨ thE kind l xs x = 4 ∨ thE kind l xs x = 10 ∨ thE kind l xs x = 6 := by
 unfold thE
 split
 ·have := thr_errs (grp kind.toNat) l xs x; omega
 ·simp
theorem thE_zero {kind : Int} {l : List Int} {xs : List ByteArray} {x : Int} (h : thE kind l xs x = 0) : ∃ k : Nat, kind = k ∧ 1 ≤ k ∧ k ≤ 3 ∧ thrE (grp k) l xs x = 0 ∧ thS kind l xs x = thrS (grp k) l xs x := by
 unfold thE at h
 unfold thS
 by_cases hk : 1 ≤ kind ∧ kind ≤ 3
 ·rw [if_pos hk] at h ⊢
  obtain ⟨k, rfl⟩ : ∃ k : Nat, kind = k := ⟨kind.toNat, by omega⟩
  exact ⟨k, rfl, by omega, by omega, h, rfl⟩
 ·rw [if_neg hk] at h; cases h
theorem thE_some {k : Nat} (h1 : 1 ≤ k) (h3 : k ≤ 3) (l : List Int) (xs : List ByteArray) (x : Int) : thE k l xs x = thrE (grp k) l xs x ∧ thS k l xs x = thrS (grp k) l xs x := by
 unfold thE thS
 rw [if_pos (by omega), if_pos (by omega), Int.toNat_natCast]
 exact ⟨rfl, rfl⟩
theorem hide_first {kind : Int} {l : List Int} {xs : List ByteArray} {s : ByteArray} (h : thE kind (0 :: l) (s :: xs) 0 = 0) : thS kind (0 :: l) (s :: xs) 0 = s := by
 obtain ⟨k, rfl, h1, h3, h4, h5⟩ := thE_zero h
 rw [h5]
 exact thr_at k h1 h3 (l := 0 :: l) (xs := s :: xs) (i := 0) (by simp) (by simp) h4
theorem hide_again {kind : Int} {l m : List Int} {xs ys : List ByteArray} {s : ByteArray} (hlen : ys.length = m.length) (hm : (0 :: l).length ≤ m.length) (hy : ∀ i (hi : i < m.length), thE kind (0 :: l) (s :: xs) m[i] = 0 ∧ ys[i]'(by omega) = thS kind (0 :: l) (s :: xs) m[i]) :
  (thE kind m ys 0 = 0 ∨ thE kind m ys 0 = 3 ∨ thE kind m ys 0 = 10) ∧ (thE kind m ys 0 = 0 → thS kind m ys 0 = s ∧ l.length = xs.length ∧ ∀ i (hi : i < l.length) (hx : i < xs.length), thE kind m ys l[i] = 0 ∧ thS kind m ys l[i] = xs[i]) := by
 have hm0 : 0 < m.length := by simp at hm; omega
 obtain ⟨k, rfl, h1, h3, _, _⟩ := thE_zero (hy 0 hm0).1
 have ok := grp_ok k h1 h3
 have hy' : ∀ i (hi : i < m.length), thrE (grp k) (0 :: l) (s :: xs) m[i] = 0 ∧ ys[i]'(by omega) = thrS (grp k) (0 :: l) (s :: xs) m[i] := fun i hi => by
  have h := hy i hi
  rw [(thE_some h1 h3 _ _ _).1, (thE_some h1 h3 _ _ _).2] at h
  exact h
 rw [(thE_some h1 h3 _ _ _).1]
 have hokm : OkP m := fun b hb => by
  obtain ⟨i, hi, rfl⟩ := List.getElem_of_mem hb
  obtain ⟨_, _, _, g4, g5, _⟩ := thr_zero (hy' i hi).1
  exact ⟨g4, g5⟩
 have hall : ys.all (isSc (grp k).q.m (grp k).size) = true := by
  refine List.all_eq_true.2 fun y hy9 => ?_
  obtain ⟨i, hi, rfl⟩ := List.getElem_of_mem hy9
  obtain ⟨⟨_, g2, _, _⟩, _, _, _, _, g6⟩ := thr_zero (hy' i (by omega)).1
  rw [(hy' i (by omega)).2, g6]
  exact sc_textS ok (valAt_lt ok.q.pos (fun h => g2 (by rw [h]; rfl)) _)
 constructor
 ·by_cases hp : placesE m = 0
  ·obtain ⟨a1, a2, a3, a4⟩ := pl_zero hp
   exact Or.inl (thr_ok a1 a2 a3 a4 hlen.symm hall (by decide))
  ·have e : thrE (grp k) m ys 0 = placesE m := by
    have : readE (isSc (grp k).q.m (grp k).size) 6 m ys = placesE m := by unfold readE; rw [if_pos hp]
    unfold thrE
    rw [this, if_pos hp]
   rw [e]
   unfold placesE at hp ⊢
   by_cases q1 : 16 < m.length
   ·rw [if_pos q1]; simp
   rw [if_neg q1] at hp ⊢
   rw [if_neg (by omega)] at hp ⊢
   rw [if_neg] at hp ⊢
   ·by_cases q4 : m.Nodup
    ·rw [if_pos q4] at hp; exact absurd rfl hp
    ·rw [if_neg q4]; simp
   all_goals
    intro h9
    obtain ⟨b, hb, h5⟩ := List.any_eq_true.1 h9
    have := hokm b hb
    unfold outP at h5
    simp at h5
    omega
 ·intro hz
  obtain ⟨⟨a1, a2, a3, a4⟩, b, c, _, _, _⟩ := thr_zero hz
  obtain ⟨⟨c1, c2, c3, c4⟩, d, f, _, _, _⟩ := thr_zero (hy' 0 hm0).1
  have hs := thr_again k h1 h3 hlen hy' hm (by omega) (x := 0) (by decide) hz
  have hlx : l.length = xs.length := by simpa using d
  refine ⟨?_, hlx, fun i hi hx => ?_⟩
  ·rw [(thE_some h1 h3 _ _ _).2, hs.1]
   exact thr_at k h1 h3 (l := 0 :: l) (xs := s :: xs) (i := 0) (by simp) (by simp) hs.2
  ·have hli : 0 ≤ l[i] ∧ l[i] ≤ 255 := c3 _ (List.mem_cons_of_mem _ (List.getElem_mem hi))
   have hzi := thr_ok (x := l[i]) a1 a2 a3 a4 b c hli
   have hsi := thr_again k h1 h3 hlen hy' hm (by omega) hli hzi
   rw [(thE_some h1 h3 _ _ _).1, (thE_some h1 h3 _ _ _).2]
   refine ⟨hzi, hsi.1.trans ?_⟩
   exact thr_at k h1 h3 (l := 0 :: l) (xs := s :: xs) (i := i + 1) (by simpa using hi) (by simpa using hx) hsi.2
def givS (kind : Int) (l : List Int) (xs : List ByteArray) (m : List Int) : List ByteArray := m.map fun x => thS kind l xs x
theorem givS_snoc (kind : Int) (l : List Int) (xs : List ByteArray) {m : List Int} {j : Nat} (hj : j < m.length) : (givS kind l xs (m.take (j + 1))).map Value.string = (givS kind l xs (m.take j)).map Value.string ++ [.string (thS kind l xs m[j])] := by
 unfold givS
 rw [List.take_succ_eq_append_getElem hj, List.map_append, List.map_append]
 rfl
theorem beq_bytes {a b : ByteArray} (h : a = b) : (a.toList == b.toList) = true := by subst h; simp
theorem trustHides_any (kind : Int) (l m : List Int) (xs : List ByteArray) (s : ByteArray) (nl nx nm : Nat) (hl : l.length = nl) (hx : xs.length = nx) (hm : m.length = nm) (hln : nl ≤ 140737488355328) (hxn : nx ≤ 140737488355328) (hl8 : (nl + 1) * 8 ≤ 140737488355328) (hx16 : (nx + 1) * 16 ≤ 140737488355328) (hm16 : (nm + 1) * 16 ≤ 140737488355328) (al ax am : Option Addr) (cl cx cm : Nat) (hal : al = none → cl = 0) (hax : ax = none → cx = 0) (w : World) (hL : Sl w w.heap.size al (l.map intV)) (hX : Sl w w.heap.size ax (xs.map Value.string)) (hM : Sl w w.heap.size am (m.map intV)) :
  Calls Try.prog 5 #[.int .i64 kind, .slice al nl cl, .slice ax nx cx, .string s, .slice am nm cm] w fun e w' => e = .returned (.bool true) ∧ Below w.heap.size w w' := by
 have HL := Lib.hid hL
 have HX := Lib.hid hX
 have HM := Lib.hid hM
 have HLN := Lib.hid hl
 have HXN := Lib.hid hx
 have HMN := Lib.hid hm
 have HAL := Lib.hid hal
 have HAX := Lib.hid hax
 have HT1 := Lib.hid (fun (x : Int) (a1 a2 : Option Addr) (c1 c2 : Nat) W h g => through_any kind (0 :: l) (1 + nl) (by simp [hl]; omega) (by omega) (s :: xs) (1 + nx) (by simp [hx]; omega) x a1 a2 c1 c2 W h g)
 have HT2 := Lib.hid (fun (ys : List ByteArray) (hy : ys.length = nm) (x : Int) (a1 a2 : Option Addr) (c1 c2 : Nat) W h g => through_any kind m nm hm (by omega) ys nm hy x a1 a2 c1 c2 W h g)
 unfold Gives at HT1 HT2
 have HC := Lib.hid (fun x => thE_cases kind (0 :: l) (s :: xs) x)
 have HF := Lib.hid (hide_first (kind := kind) (l := l) (xs := xs) (s := s))
 have HA := Lib.hid (fun (ys : List ByteArray) hlen hm9 hy => hide_again (kind := kind) (l := l) (m := m) (xs := xs) (ys := ys) (s := s) hlen hm9 hy)
 clear hL hX hM hl hx hm hal hax
 go_enter Try.func5, Try.ntmps5
 go_upto_region 1 with fail
 obtain ⟨w1, hq1, hb9, hz9, Hbs⟩ := new1 w 3 ([.int .i64 0])
 have HB := Lib.hid hb9
 have HZS := hz9
 clear hb9 hz9
 have Hr := Lib.hid (RowO.of_bx (N := w.heap.size) (n := 1) (size := 1) Hbs.out (Nat.le_refl _) rfl (by decide))
 clear Hbs
 obtain ⟨i9, hi9, hz90, hz91, hz92⟩ := info_parts infoInt6
 go_wp2_with (at_builtin; refine wpList_joinR (w.heap.size) w1 (by have g0 := HZS.out; omega) rfl _ _ 32 rfl 3 i9 _ 1 8 Try.underlying32 hi9 hz90 hz91 hz92 rfl (by omega) ((.slice (some ⟨w.heap.size, 0, none⟩) 1 1)) (1) ([.int .i64 0]) rfl Hr.out (al) (nl) (cl) (l.map (Value.int .i64)) rfl (by rw [List.length_map, HLN.out, Nat.mul_one]) ((HL.out.up HB.out)) (HAL.out) (by simp [Value.oneCell']) (by omega) (by unfold maxLen; omega) ?_)
 intro a2 c2 w2 hown9 hg9
 clear hq1
 have hb9 := Below.grown HB.out hg9 (by have g0 := HZS.out; omega) (fun q hq => Nat.le_trans (show w.heap.size ≤ w.heap.size by have g0 := HZS.out; omega) (Hr.out.lt q hq).1)
 replace HZS := sz HZS hg9.size
 clear Hr HB
 have Hr := Lib.hid hown9
 have HB := Lib.hid hb9
 clear hb9 hown9 hg9 hi9 hz90 hz91 hz92
 have BR := Lib.hid (Below.refl w2.heap.size w2)
 have HPL := Lib.hid (show Sl w2 w2.heap.size _ ((0 :: l).map intV) from Hr.out.sl)
 clear Hr
 obtain ⟨w3, hq3, hb9, hz9, Hbt⟩ := new1 w2 9 [.string s]
 replace BR := hbu BR hb9
 replace HB := hbu HB hb9
 replace HZS := sz HZS hz9.out
 clear hb9 hz9
 have bt_ := Hbt.out.c1
 have Hs := Lib.hid (RowO.of_bx (n := 1) (size := 1) Hbt.out (Nat.le_refl _) rfl (by decide))
 clear bt_ Hbt
 obtain ⟨i9, hi9, hz90, hz91, hz92⟩ := info_parts infoStr
 go_wp2_with (at_builtin; refine wpList_joinR (w2.heap.size) w3 (by have g0 := HZS.out; omega) rfl _ _ 22 rfl 9 i9 _ 1 16 Try.underlying22 hi9 hz90 hz91 hz92 rfl (by omega) ((.slice (some ⟨w2.heap.size, 0, none⟩) 1 1)) (1) ([.string s]) rfl Hs.out (ax) (nx) (cx) (xs.map Value.string) rfl (by rw [List.length_map, HXN.out, Nat.mul_one]) ((HX.out.up HB.out)) (HAX.out) (by simp [Value.oneCell']) (by omega) (by unfold maxLen; omega) ?_)
 intro a4 c4 w4 hown9 hg9
 clear hq3
 have hb9 := Below.grown HB.out hg9 (by have g0 := HZS.out; omega) (fun q hq => Nat.le_trans (show w.heap.size ≤ w2.heap.size by have g0 := HZS.out; omega) (Hs.out.lt q hq).1)
 replace BR := Lib.hid (Below.grown BR.out hg9 (by have g0 := HZS.out; omega) (fun q hq => Nat.le_trans (show w2.heap.size ≤ w2.heap.size by have g0 := HZS.out; omega) (Hs.out.lt q hq).1))
 replace HZS := sz HZS hg9.size
 clear Hs HB
 have Hs := Lib.hid hown9
 have HB := Lib.hid hb9
 clear hb9 hown9 hg9 hi9 hz90 hz91 hz92
 have HP4 := Lib.hid (HPL.out.up BR.out)
 have HS4 := Lib.hid (show Sl w4 w4.heap.size a4 ((s :: xs).map Value.string) from Hs.out.sl)
 clear Hs BR HPL
 have BL := Lib.hid (Below.refl w4.heap.size w4)
 go_wp2_with fail
 go_loopw [35, 13] (fun i v wr => ∃ (j : Nat) (g : Option Addr) (c9 : Nat), j ≤ nm ∧ i = .int .i64 j ∧ v = .slice g j c9 ∧ Hid (Below w4.heap.size w4 wr) ∧ Hid (RowO w4.heap.size wr 9 1 (.slice g j c9) j ((givS kind (0 :: l) (s :: xs) (m.take j)).map Value.string)) ∧ Hid (∀ i (hi : i < m.length), i < j → thE kind (0 :: l) (s :: xs) m[i] = 0)) (fun i _ _ => nm - (intOf i).toNat)
 case atStart => exact ⟨0, none, 0, Nat.zero_le _, rfl, rfl, BL, RowO.nil, fun i hi h => absurd h (Nat.not_lt_zero _)⟩
 case round =>
  obtain ⟨j, g, c9, hj, rfl, rfl, HL9, Hr, HZE⟩ := hrel
  have hb9 := HL9.out
  clear HL9
  replace BL := hbu BL hb9
  replace HB := hbu HB hb9
  replace HZS := sz HZS hb9.size
  clear hb9
  have HP := Lib.hid (HP4.out.up BL.out)
  have HS := Lib.hid (HS4.out.up BL.out)
  by_cases hjn : j < nm
  ·have hjm : j < m.length := by rw [HMN.out]; exact hjn
   obtain ⟨bm, om, rfl, hbm, hcm⟩ := (HM.out.up HB.out).at j (by rw [List.length_map]; exact hjm)
   rw [List.getElem_map] at hcm
   unfold intV at hcm
   have HSN := Lib.hid (givS_snoc kind (0 :: l) (s :: xs) hjm)
   have HZN := Lib.hid (fun (h : thE kind (0 :: l) (s :: xs) m[j] = 0) => show ∀ i (hi : i < m.length), i < j + 1 → thE kind (0 :: l) (s :: xs) m[i] = 0 from fun i hi h9 => by
    rcases Nat.lt_or_eq_of_le (Nat.le_of_lt_succ h9) with h8 | rfl
    ·exact HZE.out i hi h8
    ·exact h)
   have HCJ := HC.out m[j]
   have HTJ := Lib.hid (HT1.out m[j])
   obtain ⟨te, hte⟩ : ∃ v, thE kind (0 :: l) (s :: xs) m[j] = v := ⟨_, rfl⟩
   rw [hte] at HZN HCJ HTJ
   clear hte
   generalize thS kind (0 :: l) (s :: xs) m[j] = ts at *
   generalize m[j] = x at *
   go_wp2_with fail
   clear hcm hbm
   refine (HTJ.out a2 a4 c2 c4 wr HP.out HS.out).mono ?_
   rintro e w5 ⟨rfl, hb9⟩
   replace Hr := Lib.hid (Hr.out.up hb9)
   replace BL := hbu BL hb9
   replace HB := hbu HB hb9
   replace HZS := sz HZS hb9.size
   clear hb9
   rcases HCJ with rfl | rfl | rfl | rfl | rfl | rfl | rfl
   case inr.inl | inr.inr.inl | inr.inr.inr.inl | inr.inr.inr.inr.inl | inr.inr.inr.inr.inr.inl | inr.inr.inr.inr.inr.inr =>
    go_wp2_with fail
    go_ret
    exact ⟨rfl, HB.out⟩
   case inl =>
    obtain ⟨i9, hi9, hz90, hz91, hz92⟩ := info_parts infoStr
    go_wp2_with (at_builtin; refine wpList_pushR (w4.heap.size) w5 (by have g0 := HZS.out; omega) rfl _ _ 22 rfl 9 i9 _ 1 16 Try.underlying22 hi9 hz90 hz91 hz92 rfl (by omega) ((.slice g j c9)) (j) (((givS kind (0 :: l) (s :: xs) (m.take j)).map Value.string)) rfl Hr.out _ _ _ rfl rfl rfl (by simp [Value.oneCell']) (by omega) (by unfold maxLen; omega) ?_)
    intro g6 c6 w6 hown9 hg9
    have hb9 := Below.grown HB.out hg9 (by have g0 := HZS.out; omega) (fun q hq => Nat.le_trans (show w.heap.size ≤ w4.heap.size by have g0 := HZS.out; omega) (Hr.out.lt q hq).1)
    replace BL := Lib.hid (Below.grown BL.out hg9 (by have g0 := HZS.out; omega) (fun q hq => Nat.le_trans (show w4.heap.size ≤ w4.heap.size by have g0 := HZS.out; omega) (Hr.out.lt q hq).1))
    replace HZS := sz HZS hg9.size
    clear Hr HB
    have Hr := Lib.hid hown9
    have HB := Lib.hid hb9
    clear hb9 hown9 hg9 hi9 hz90 hz91 hz92
    go_wp2_with fail
    go_roundw
    case rel => exact ⟨j + 1, _, _, by omega, by go_num, rfl, BL, Hr.out.eq HSN.out.symm rfl, Lib.hid (HZN.out (by simp))⟩
    case measure => simp [intOf]; omega
  ·have hjn' : j = nm := by omega
   subst hjn'
   have HMT := Lib.hid (show m.take j = m from List.take_of_length_le (by rw [HMN.out]; exact Nat.le_refl _))
   rw [HMT.out] at Hr
   have HZA := Lib.hid (fun i (hi : i < m.length) => HZE.out i hi (by rw [← HMN.out]; exact hi))
   have HGV := Lib.hid (show Sl wr wr.heap.size g ((givS kind (0 :: l) (s :: xs) m).map Value.string) from Hr.out.sl)
   have HGL := Lib.hid (show (givS kind (0 :: l) (s :: xs) m).length = j by unfold givS; rw [List.length_map, HMN.out])
   have HGE := Lib.hid (fun i (hi : i < m.length) => show thE kind (0 :: l) (s :: xs) m[i] = 0 ∧ (givS kind (0 :: l) (s :: xs) m)[i]'(by rw [HGL.out, ← HMN.out]; exact hi) = thS kind (0 :: l) (s :: xs) m[i] from ⟨HZA.out i hi, by unfold givS; rw [List.getElem_map]⟩)
   clear Hr BL HZE HZA HMT
   by_cases hlt : j < 1 + nl
   ·have hd : decide ((j : Int) < (1 : Int) + (nl : Int)) = true := by simp; omega
    have HT0 := Lib.hid (HT1.out 0)
    have HF0 := Lib.hid HF.out
    obtain ⟨te, hte⟩ : ∃ v, thE kind (0 :: l) (s :: xs) 0 = v := ⟨_, rfl⟩
    rw [hte] at HT0 HF0
    clear hte HA HT1 HT2 HF
    generalize thS kind (0 :: l) (s :: xs) 0 = ts at *
    by_cases h0 : te = 0
    ·subst h0
     have hts := beq_bytes (HF0.out rfl)
     have hd9 : (((((0 : Nat) : Int))) != 0) = false := by simp
     go_wp2_with fail
     refine (HT0.out a2 a4 c2 c4 wr HP.out HS.out).mono ?_
     rintro e w5 ⟨rfl, hb9⟩
     replace HB := hbu HB hb9
     replace HZS := sz HZS hb9.size
     clear hb9
     go_wp2_with fail
     go_ret
     exact ⟨rfl, HB.out⟩
    ·have hd9 : ((te : Int) != 0) = true := by simp; omega
     clear h0
     go_wp2_with fail
     refine (HT0.out a2 a4 c2 c4 wr HP.out HS.out).mono ?_
     rintro e w5 ⟨rfl, hb9⟩
     replace HB := hbu HB hb9
     replace HZS := sz HZS hb9.size
     clear hb9
     go_wp2_with fail
     go_ret
     exact ⟨rfl, HB.out⟩
   ·have hd : decide ((j : Int) < (1 : Int) + (nl : Int)) = false := by simp; omega
    obtain ⟨hc3, hz3⟩ := HA.out _ (HGL.out.trans HMN.out.symm) (by rw [List.length_cons, HLN.out, HMN.out]; omega) HGE.out
    have HZ3 := Lib.hid hz3
    clear hz3
    have HT4 := Lib.hid (fun x W h7 h6 => HT2.out _ HGL.out x am g cm c9 W h7 h6)
    have HT0 := Lib.hid (HT4.out 0)
    obtain ⟨te, hte⟩ : ∃ v, thE kind m (givS kind (0 :: l) (s :: xs) m) 0 = v := ⟨_, rfl⟩
    rw [hte] at HT0 HZ3 hc3
    clear hte HA HT1 HT2 HF HGE
    generalize givS kind (0 :: l) (s :: xs) m = ys at *
    obtain ⟨ts, hts⟩ : ∃ v, thS kind m ys 0 = v := ⟨_, rfl⟩
    rw [hts] at HT0 HZ3
    clear hts
    rcases hc3 with rfl | rfl | rfl
    case inl =>
     obtain ⟨hts, hlx, hall⟩ := HZ3.out rfl
     have hts2 := beq_bytes hts
     have HLX := Lib.hid (show nl = nx by rw [← HLN.out, ← HXN.out, hlx])
     have HALL := Lib.hid hall
     have hd9 : (((((0 : Nat) : Int))) != 0) = false := by simp
     clear hts hlx hall HZ3
     go_wp2_with fail
     have BK := Lib.hid (Below.refl wr.heap.size wr)
     refine (HT0.out wr (HM.out.up HB.out) HGV.out).mono ?_
     rintro e w5 ⟨rfl, hb9⟩
     replace BK := hbu BK hb9
     replace HB := hbu HB hb9
     replace HZS := sz HZS hb9.size
     clear hb9
     go_wp2_with fail
     clear hts2 hd9
     have HGW := Lib.hid (HGV.out.up BK.out)
     clear BK HGV HP HS
     obtain ⟨wo, rfl⟩ : ∃ wo : World, wo = wr := ⟨_, rfl⟩
     have BI := Lib.hid (Below.refl w5.heap.size w5)
     go_loopw [115] (fun i wr => ∃ t : Nat, t ≤ nl ∧ i = .int .i64 t ∧ Hid (Below w5.heap.size w5 wr)) (fun i _ => nl - (intOf i).toNat)
     case atStart => exact ⟨0, Nat.zero_le _, rfl, BI⟩
     case round =>
      obtain ⟨t, ht, rfl, HL9⟩ := hrel
      have hb9 := HL9.out
      clear HL9
      replace BI := hbu BI hb9
      replace HB := hbu HB hb9
      replace HZS := sz HZS hb9.size
      clear hb9
      by_cases htn : t < nl
      ·have htl : t < l.length := by rw [HLN.out]; exact htn
       have htx : t < xs.length := by rw [HXN.out, ← HLX.out]; exact htn
       have htnx : t < nx := by rw [← HXN.out]; exact htx
       obtain ⟨bl, ol, rfl, hbl, hcl⟩ := (HL.out.up HB.out).at t (by rw [List.length_map]; exact htl)
       rw [List.getElem_map] at hcl
       unfold intV at hcl
       obtain ⟨h9, h8⟩ := HALL.out t htl htx
       obtain ⟨bx, ox, rfl, hbx, hcx⟩ := HX.out.at t (by rw [List.length_map]; exact htx)
       rw [List.getElem_map] at hcx
       have HTX := Lib.hid (HT4.out l[t])
       rw [h9] at HTX
       have hts2 := beq_bytes h8
       generalize thS kind m ys l[t] = tq at *
       generalize xs[t] = v at *
       generalize l[t] = x at *
       clear h9 h8
       have HCX := Lib.hid (fun (W : World) (h : Below w.heap.size w W) => (h.cell (p := ⟨bx, ox + t, none⟩) hbx).trans hcx)
       go_wp2_with fail
       clear hcl hbl hcx hbx
       refine (HTX.out wr (HM.out.up HB.out) (HGW.out.up BI.out)).mono ?_
       rintro e w6 ⟨rfl, hb9⟩
       replace BI := hbu BI hb9
       replace HB := hbu HB hb9
       replace HZS := sz HZS hb9.size
       clear hb9
       have hcx := HCX.out _ HB.out
       have hd8 : (tq.toList != v.toList) = false := by rw [bne, hts2]; rfl
       go_wp2_with fail
       go_roundw
       case rel => exact ⟨t + 1, by omega, by go_num, BI⟩
       case measure => simp [intOf]; omega
      ·have htn' : t = nl := by omega
       subst htn'
       go_wp2_with fail
       go_ret
       exact ⟨rfl, HB.out⟩
    case inr.inl | inr.inr =>
     go_wp2_with fail
     refine (HT0.out wr (HM.out.up HB.out) HGV.out).mono ?_
     rintro e w5 ⟨rfl, hb9⟩
     replace HB := hbu HB hb9
     replace HZS := sz HZS hb9.size
     clear hb9
     go_wp2_with fail
     go_ret
     exact ⟨rfl, HB.out⟩
theorem trustHides_calls {H : Type} (enc : TypeId × Value → H) (W : World) (base : Nat) {v0 v1 v2 v3 v4 : Value} {d0 d1 d2 d3 d4 : DataW H} {p0 p1 p2 p3 p4 : List MemPlace}
  (h0 : DataW.Trod enc Try.prog W 0 (fun _ => true) true 3 v0 d0 p0) (h1 : DataW.Trod enc Try.prog W 0 (fun _ => true) true 32 v1 d1 p1) (h2 : DataW.Trod enc Try.prog W 0 (fun _ => true) true 22 v2 d2 p2) (h3 : DataW.Trod enc Try.prog W 0 (fun _ => true) true 9 v3 d3 p3) (h4 : DataW.Trod enc Try.prog W 0 (fun _ => true) true 32 v4 d4 p4)
  (k0 : Value.okWide Try.prog W .any base 3 v0) (k1 : Value.okWide Try.prog W .any base 32 v1) (k2 : Value.okWide Try.prog W .any base 22 v2) (k3 : Value.okWide Try.prog W .any base 9 v3) (k4 : Value.okWide Try.prog W .any base 32 v4)
  (_lt0 : ∀ x ∈ p0, x.block < W.heap.size) (_lt1 : ∀ x ∈ p1, x.block < W.heap.size) (_lt2 : ∀ x ∈ p2, x.block < W.heap.size) (_lt3 : ∀ x ∈ p3, x.block < W.heap.size) (_lt4 : ∀ x ∈ p4, x.block < W.heap.size)
  (hsz : Rows.uptoSmall H ([d0, d1, d2, d3, d4] ++ []) = true) :
  Calls Try.prog 5 #[v0, v1, v2, v3, v4] W fun e w' => e = .returned (.bool true) ∧ Below W.heap.size W w' := by
 obtain ⟨kind, rfl, _, _, _⟩ := open_int Try.underlying3 k0 h0
 obtain ⟨s, rfl, _⟩ := Go.ChangeMaps.open_string Try.underlying9 k3 h3
 obtain ⟨b1, n1, m1, rfl⟩ := okWide_slice Try.underlying32 k1
 obtain ⟨b2, n2, m2, rfl⟩ := okWide_slice Try.underlying22 k2
 obtain ⟨b4, n4, m4, rfl⟩ := okWide_slice Try.underlying32 k4
 obtain ⟨f1, h1⟩ := h1
 obtain ⟨f2, h2⟩ := h2
 obtain ⟨f4, h4⟩ := h4
 have hB : Rows.uptoBulkAll [d0, d1, d2, d3, d4] ≤ 1048576 := of_decide_eq_true hsz
 have hB1 := Nat.le_trans (bulk_part (d := d1) (l := [d0, d1, d2, d3, d4]) (by simp)) hB
 have hB2 := Nat.le_trans (bulk_part (d := d2) (l := [d0, d1, d2, d3, d4]) (by simp)) hB
 have hB4 := Nat.le_trans (bulk_part (d := d4) (l := [d0, d1, d2, d3, d4]) (by simp)) hB
 obtain ⟨al, cl, ls, e1, hl, hS1, _, hn1⟩ := open_intsB hB1 h1
 obtain ⟨ax, cx, xs, e2, hx, hS2, hn2⟩ := open_strsB hB2 h2
 obtain ⟨am, cm, ms, e4, hm, hS4, _, hn4⟩ := open_intsB hB4 h4
 rw [e1, e2, e4]
 exact trustHides_any kind ls ms xs s _ _ _ rfl rfl rfl (by omega) (by omega) (by omega) (by omega) (by omega) al ax am cl cx cm hn1 hn2 W hS1 hS2 hS4
theorem trustHides_lifted (os : Os) (started : os.Started) (H : Type) (enc : TypeId × Value → H) (F : Stop.Interp) :
  ReturnsInHanded {} Try.checked os 5 .any ((Rows.OpenSpec.upto Rows.trustHidesSpec).pre6 enc Try.prog Try.f5 Rows.trustHidesUptoRow.domain false) (((Rows.OpenSpec.upto Rows.trustHidesSpec).at F).post enc Try.prog Try.f5 false true false false) := by
 refine returnsInHanded_of_cond (C := Try.checked) (s := Rows.OpenSpec.upto Rows.trustHidesSpec) (k := Rows.uptoSmall) rfl law_own started (by kernel_rfl) Try.func5
  (OpenSpec.witness (enc := enc) (C := Try.checked) (s := Rows.OpenSpec.upto Rows.trustHidesSpec) (k := Rows.uptoSmall) rfl false ⟨#[], #[.int .i64 0, .slice none 0 0, .slice none 0 0, .string ⟨#[]⟩, .slice none 0 0], []⟩ 8 (by kernel_rfl) (by kernel_rfl) (by kernel_rfl)
   (x := ([.lit (.int .i64 0), .nil, .nil, .lit (.string []), .nil], [], [])) (by kernel_rfl) rfl (by kernel_rfl)) ?_
 intro W base args ds gs before hval0 hW _ hsz0 _
 have hsz : Rows.uptoSmall H (ds ++ gs) = true := hsz0
 clear hsz0
 have hval : ∀ (j : Nat) t v, Try.f5.params[j]? = some t → args[j]? = some v → Value.okWide Try.prog W .any base t v := hval0
 have hW' := hW
 obtain ⟨p, q, hA0, hV, rfl, _, _⟩ := hW
 have hA : DataW.TrodAll enc Try.prog W 0 (fun _ => true) true Try.f5.params.toList args.toList ds p := hA0
 rw [Try.params5] at hA hval
 obtain ⟨v0, vs0, d0, ds0, p0, q0, hargs, rfl, rfl, h0, r0⟩ := trodAll_cons hA
 obtain ⟨v1, vs1, d1, ds1, p1, q1, rfl, rfl, rfl, h1, r1⟩ := trodAll_cons r0
 obtain ⟨v2, vs2, d2, ds2, p2, q2, rfl, rfl, rfl, h2, r2⟩ := trodAll_cons r1
 obtain ⟨v3, vs3, d3, ds3, p3, q3, rfl, rfl, rfl, h3, r3⟩ := trodAll_cons r2
 obtain ⟨v4, vs4, d4, ds4, p4, q4, rfl, rfl, rfl, h4, r4⟩ := trodAll_cons r3
 obtain ⟨rfl, rfl, rfl⟩ := trodAll_nil r4
 obtain rfl : args = #[v0, v1, v2, v3, v4] := by cases args; simp_all
 obtain ⟨rfl, rfl⟩ := trodVars_none hV
 have lt0 : ∀ x ∈ p0, x.block < W.heap.size := by obtain ⟨m, hm⟩ := h0; exact DataW.trod_lt m _ _ _ hm
 have lt1 : ∀ x ∈ p1, x.block < W.heap.size := by obtain ⟨m, hm⟩ := h1; exact DataW.trod_lt m _ _ _ hm
 have lt2 : ∀ x ∈ p2, x.block < W.heap.size := by obtain ⟨m, hm⟩ := h2; exact DataW.trod_lt m _ _ _ hm
 have lt3 : ∀ x ∈ p3, x.block < W.heap.size := by obtain ⟨m, hm⟩ := h3; exact DataW.trod_lt m _ _ _ hm
 have lt4 : ∀ x ∈ p4, x.block < W.heap.size := by obtain ⟨m, hm⟩ := h4; exact DataW.trod_lt m _ _ _ hm
 clear hA0 hval0
 refine (trustHides_calls enc W base h0 h1 h2 h3 h4 (hval 0 3 v0 rfl rfl) (hval 1 32 v1 rfl rfl) (hval 2 22 v2 rfl rfl) (hval 3 9 v3 rfl rfl) (hval 4 32 v4 rfl rfl) lt0 lt1 lt2 lt3 lt4 hsz).mono fun e W' ⟨he, bel⟩ => ?_
 subst he
 exact ⟨_, rfl, _, _, _, [], _, [], hW', trodAll_mk1 (shut_bool Try.underlying4 _), (trodAll_cons_mk (Below.trod law_laidOut (by kernel_rfl) (of_decide_eq_true (by kernel_rfl)) h0 bel lt0) (trodAll_cons_mk (Below.trod law_laidOut (by kernel_rfl) (of_decide_eq_true (by kernel_rfl)) h1 bel lt1) (trodAll_cons_mk (Below.trod law_laidOut (by kernel_rfl) (of_decide_eq_true (by kernel_rfl)) h2 bel lt2) (trodAll_cons_mk (Below.trod law_laidOut (by kernel_rfl) (of_decide_eq_true (by kernel_rfl)) h3 bel lt3) (trodAll_cons_mk (Below.trod law_laidOut (by kernel_rfl) (of_decide_eq_true (by kernel_rfl)) h4 bel lt4) trodAll_mk0))))), rfl, bel.frame _, fun h => by cases h⟩
theorem trustHides_holds : Rows.TrustHidesUptoSaid :=
 OpenClaim.holds_of_cond 5 Try.f5 rfl rfl rfl rfl rfl rfl rfl ⟨rfl, rfl, rfl, rfl, rfl⟩ rfl rfl rfl rfl rfl (by kernel_rfl) Try.func5 (by kernel_rfl)
  (of_decide_eq_true (by kernel_rfl)) (by unfold Func.isWrapper; first | (rw [if_pos (by decide +kernel)]; kernel_rfl) | (rw [if_neg (by decide +kernel)]; exact ⟨rfl, rfl⟩))
  (fun os started H enc _ F => trustHides_lifted os started H enc F)
#print axioms trustHides_holds
end Go.Proofs.Ytjmeakfjfpnciaa
