/- BoardBlocks: Blocks and Head of anything answer what the document says. No condition. -/
import Derived.Test.YtdlnnkbigeiilaaZBoardBlocks6

/- Small words for opening arguments of deep types: slices of elements of any size, whatever each element is. No condition. -/
namespace Go.Proofs.Ytdlnnkbigeiilaa
open Go.ChangeShapes Go.WideShapes Go.ChangeAt Go.RowKit

/-! What the bound of the second form gives. -/
theorem bulk_one {H : Type} (d : DataW H) : 1 ≤ Rows.uptoBulk d := by
  cases d with
  | lit l => cases l <;> simp [Rows.uptoBulk]
  | nil => simp [Rows.uptoBulk]
  | ptr d => simp [Rows.uptoBulk]
  | slice elems spare => simp [Rows.uptoBulk]
  | agg parts => simp [Rows.uptoBulk]
  | iface t d => simp [Rows.uptoBulk]
  | map entries => simp [Rows.uptoBulk]
  | held h => simp [Rows.uptoBulk]
theorem bulk_part {H : Type} {d : DataW H} {l : List (DataW H)} (h : d ∈ l) : Rows.uptoBulk d ≤ Rows.uptoBulkAll l := by
  induction l with
  | nil => cases h
  | cons x r ih =>
    simp only [Rows.uptoBulkAll]
    rcases List.mem_cons.1 h with rfl | e
    · omega
    · have := ih e; omega
theorem bulk_length {H : Type} (l : List (DataW H)) : l.length ≤ Rows.uptoBulkAll l := by
  induction l with
  | nil => simp [Rows.uptoBulkAll]
  | cons x r ih => have := bulk_one x; simp only [Rows.uptoBulkAll, List.length_cons]; omega
theorem bulk_slice {H : Type} {elems spare : List (DataW H)} {B : Nat} (h : Rows.uptoBulk (.slice elems spare) ≤ B) : elems.length ≤ B ∧ ∀ d ∈ elems, Rows.uptoBulk d ≤ B := by
  simp only [Rows.uptoBulk] at h
  refine ⟨by have := bulk_length elems; omega, fun d hd => by have := bulk_part hd; omega⟩
theorem bulk_agg {H : Type} {parts : List (DataW H)} {B : Nat} (h : Rows.uptoBulk (.agg parts) ≤ B) : ∀ d ∈ parts, Rows.uptoBulk d ≤ B := by
  simp only [Rows.uptoBulk] at h
  exact fun d hd => by have := bulk_part hd; omega

theorem flat_range (g : Nat → Value) (k len : Nat) : ((List.range len).map fun i => (List.range k).map fun j => g (i * k + j)).flatten = (List.range (len * k)).map g := by
  induction len with
  | zero => simp
  | succ m ih =>
    rw [List.range_succ, List.map_append, List.flatten_append, ih, Nat.succ_mul, List.range_add, List.map_append]
    simp [List.map_map, Function.comp_def]

section
variable {H : Type} {enc : TypeId × Value → H} {P : Program} {w : World}

/-- A cell that is a slice of elements of k cells: all its elements' cells, each element with its own reading. -/
theorem open_flat {sp : Nat → Bool} {held : Bool} {t e : TypeId} {k fuel : Nat} {c : Value} {y : DataW H × List MemPlace} (ht : P.underlying t = some (.slice e)) (hk : P.cellsOf e = k) (hk0 : 0 < k) {B : Nat} (hB : Rows.uptoBulk y.1 ≤ B)
    (h : DataW.trod enc P w 0 sp held fuel t [c] = some y) :
    ∃ (a : Option Addr) (cap : Nat) (css : List (List Value)), c = .slice a css.length cap ∧ css.length ≤ B ∧ (∀ l ∈ css, l.length = k) ∧ Sl w w.heap.size a css.flatten ∧
      ∀ l ∈ css, ∃ n y', Rows.uptoBulk y'.1 ≤ B ∧ DataW.trod enc P w 0 sp held n e l = some y' := by
  have hlt := DataW.trod_lt _ _ _ _ h
  rcases DataW.trod_slice ht h with ⟨hcs, _⟩ | ⟨x, len, cap, elems, rest, n, _, hcs, hx, hb, hl, hm, hlen, hel, _, _⟩
  · simp only [List.cons.injEq, and_true] at hcs
    exact ⟨none, 0, [], hcs, by simp, by simp, Or.inl rfl, by simp⟩
  simp only [List.cons.injEq, and_true] at hcs
  subst hcs
  by_cases h0 : len = 0
  · subst h0
    exact ⟨some x, cap, [], rfl, by simp, by simp, Or.inl rfl, by simp⟩
  have hbk := bulk_slice (elems := elems.map (·.1)) (spare := rest.map (·.1)) (B := B) (by rw [hx] at hB; exact hB)
  have each : ∀ i, i < len → ∃ l y', w.cells? 0 (x.add (i * k)) k = some l ∧ Rows.uptoBulk y'.1 ≤ B ∧ DataW.trod enc P w 0 sp held n e l = some y' := by
    intro i hi
    have h1 := hel i hi
    rw [hk, show elems[i]? = some (elems[i]'(by omega)) from List.getElem?_eq_getElem (by omega), Option.bind_eq_some_iff] at h1
    obtain ⟨l, hl, hy⟩ := h1
    exact ⟨l, _, hl, hbk.2 _ (List.mem_map.2 ⟨_, List.getElem_mem _, rfl⟩), hy⟩
  obtain ⟨b, off, spot⟩ := x
  have hspot : spot = none := by
    obtain ⟨l, _, h1, _⟩ := each 0 (by omega)
    obtain ⟨_, h2, h3⟩ := World.cells?_some h1
    have h4 := h3 0 hk0
    obtain ⟨v, hv⟩ : ∃ v, l[0]? = some v := ⟨_, List.getElem?_eq_getElem (by omega)⟩
    rw [hv, Deep.add_add, Nat.zero_mul, Nat.zero_add] at h4
    simpa [Addr.add] using World.cell?_spot h4
  subst hspot
  have hbW : b < w.heap.size := hlt (.cell b off) (by
    rw [hx]
    exact List.mem_append_left _ (MemPlace.mem_row.2 ⟨0, by rw [hk]; have : 0 < (elems.length + rest.length) * k := Nat.mul_pos (by omega) hk0; omega, by simp⟩))
  have hL : ∀ i, i < len → ((List.range k).map fun j => (w.cell? ⟨b, off + (i * k + j), none⟩).getD (.bool false)).length = k ∧
      (∀ j, j < k → w.cell? ⟨b, off + (i * k + j), none⟩ = some ((w.cell? ⟨b, off + (i * k + j), none⟩).getD (.bool false))) ∧
      ∃ y', Rows.uptoBulk y'.1 ≤ B ∧ DataW.trod enc P w 0 sp held n e ((List.range k).map fun j => (w.cell? ⟨b, off + (i * k + j), none⟩).getD (.bool false)) = some y' := by
    intro i hi
    obtain ⟨l, y', h1, h2b, h2⟩ := each i hi
    obtain ⟨_, h3, h4⟩ := World.cells?_some h1
    have h5 : ∀ j, j < k → w.cell? ⟨b, off + (i * k + j), none⟩ = l[j]? := by
      intro j hj
      have := h4 j hj
      rwa [Deep.add_add, add_plain] at this
    have e1 : (List.range k).map (fun j => (w.cell? ⟨b, off + (i * k + j), none⟩).getD (.bool false)) = l := by
      apply List.ext_getElem?
      intro j
      by_cases hj : j < k
      · rw [List.getElem?_map, List.getElem?_range hj, Option.map_some, h5 j hj, List.getElem?_eq_getElem (show j < l.length by omega), Option.getD_some]
      · rw [List.getElem?_eq_none (by simp; omega), List.getElem?_eq_none (by omega)]
    refine ⟨by simp, ?_, ?_⟩
    · intro j hj
      rw [h5 j hj, List.getElem?_eq_getElem (show j < l.length by omega), Option.getD_some]
    · rw [e1]; exact ⟨y', h2b, h2⟩
  refine ⟨some ⟨b, off, none⟩, cap, (List.range len).map fun i => (List.range k).map fun j => (w.cell? ⟨b, off + (i * k + j), none⟩).getD (.bool false), by simp, ?_, ?_, Or.inr ⟨b, off, rfl, hbW, ?_⟩, ?_⟩
  · have := hbk.1; rw [List.length_map] at this; simp; omega
  · intro l hl
    obtain ⟨i, _, rfl⟩ := List.mem_map.1 hl
    simp
  · have hflat := flat_range (fun m => (w.cell? ⟨b, off + m, none⟩).getD (.bool false)) k len
    intro i v hv
    rw [hflat] at hv
    have hi : i < len * k := by have := (List.getElem?_eq_some_iff.1 hv).1; simpa using this
    have hq : i / k < len := Nat.div_lt_of_lt_mul (by rwa [Nat.mul_comm] at hi)
    have hc := (hL (i / k) hq).2.1 (i % k) (Nat.mod_lt _ hk0)
    rw [show i / k * k + i % k = i by rw [Nat.mul_comm]; exact Nat.div_add_mod i k] at hc
    rw [hc, ← hv, List.getElem?_map, List.getElem?_range hi, Option.map_some]
  · intro l hl
    obtain ⟨i, hi, rfl⟩ := List.mem_map.1 hl
    obtain ⟨y', hyb, hy⟩ := (hL i (List.mem_range.1 hi)).2.2
    exact ⟨n, y', hyb, hy⟩

/-- A list of lists of values each of which is of one shape. -/
theorem list_shapes {α : Type} (f : α → List Value) (R : α → Prop) : ∀ css : List (List Value), (∀ l ∈ css, ∃ x, l = f x ∧ R x) → ∃ xs : List α, xs.length = css.length ∧ css.flatten = xs.flatMap f ∧ ∀ x ∈ xs, R x
  | [], _ => ⟨[], rfl, rfl, by simp⟩
  | l :: css, h => by
    obtain ⟨x, rfl, hR⟩ := h l (by simp)
    obtain ⟨xs, h1, h2, h3⟩ := list_shapes f R css (fun c hc => h c (by simp [hc]))
    refine ⟨x :: xs, by simp [h1], by simp [h2], ?_⟩
    intro y hy
    rcases List.mem_cons.1 hy with rfl | hy
    · exact hR
    · exact h3 y hy

/-- The same, each element of a shape that is known. -/
theorem open_els {α : Type} (f : α → List Value) (R : α → Prop) {sp : Nat → Bool} {held : Bool} {t e : TypeId} {k fuel : Nat} {c : Value} {y : DataW H × List MemPlace} (ht : P.underlying t = some (.slice e)) (hk : P.cellsOf e = k) (hk0 : 0 < k) {B : Nat} (hB : Rows.uptoBulk y.1 ≤ B)
    (hel : ∀ n l y', l.length = k → Rows.uptoBulk y'.1 ≤ B → DataW.trod enc P w 0 sp held n e l = some y' → ∃ x, l = f x ∧ R x) (h : DataW.trod enc P w 0 sp held fuel t [c] = some y) :
    ∃ (a : Option Addr) (cap : Nat) (xs : List α), c = .slice a xs.length cap ∧ xs.length ≤ B ∧ Sl w w.heap.size a (xs.flatMap f) ∧ ∀ x ∈ xs, R x := by
  obtain ⟨a, cap, css, rfl, hlB, hl, hs, he⟩ := open_flat ht hk hk0 hB h
  obtain ⟨xs, h1, h2, h3⟩ := list_shapes f R css (fun l hm => by
    obtain ⟨n, y', hyb, hy⟩ := he l hm
    exact hel n l y' (hl l hm) hyb hy)
  exact ⟨a, cap, xs, by rw [h1], by omega, h2 ▸ hs, h3⟩

/-- A struct whose fields are of one cell each. -/
theorem open_cells {sp : Nat → Bool} {held : Bool} {t : TypeId} {fs : Array Go.Field} {fuel : Nat} {cs : List Value} {y : DataW H × List MemPlace} (hs : P.underlying t = some (.struct fs)) (hone : Go.Deep.oneCellFields P fs = true) (hC : P.cellsOf t = fs.size) {B : Nat} (hB : Rows.uptoBulk y.1 ≤ B)
    (h : DataW.trod enc P w 0 sp held fuel t cs = some y) :
    cs.length = fs.size ∧ ∀ (j : Nat) (f : Go.Field) (c : Value), fs[j]? = some f → cs[j]? = some c → ∃ n y', Rows.uptoBulk y'.1 ≤ B ∧ DataW.trod enc P w 0 sp held n f.type [c] = some y' := by
  obtain ⟨ys, n, _, hy, hcl, hlen, hg⟩ := DataW.trod_struct hs h
  have hbk := bulk_agg (parts := ys.map (·.1)) (B := B) (by rw [hy] at hB; exact hB)
  refine ⟨by omega, fun j f c hj hc => ?_⟩
  obtain ⟨ho, hk⟩ := Go.Deep.hone_of hone j f hj
  have hjf : j < fs.size := (Array.getElem?_eq_some_iff.1 hj).1
  have h1 := hg j f hj
  have hjc := (List.getElem?_eq_some_iff.1 hc).1
  rw [ho, hk, List.drop_eq_getElem_cons hjc, List.take_succ_cons, List.take_zero, (List.getElem?_eq_some_iff.1 hc).2, List.getElem?_eq_getElem (show j < ys.length by omega)] at h1
  exact ⟨n, _, hbk _ (List.mem_map.2 ⟨_, List.getElem_mem _, rfl⟩), h1⟩

theorem list2 {cs : List Value} (h : cs.length = 2) : ∃ a b, cs = [a, b] := by
  match cs, h with
  | [a, b], _ => exact ⟨a, b, rfl⟩
theorem list3 {cs : List Value} (h : cs.length = 3) : ∃ a b c, cs = [a, b, c] := by
  match cs, h with
  | [a, b, c], _ => exact ⟨a, b, c, rfl⟩

/-- A cell that is a string. -/
theorem open_str {sp : Nat → Bool} {held : Bool} {t : TypeId} {fuel : Nat} {c : Value} {y : DataW H × List MemPlace} (ht : P.underlying t = some .string) (h : DataW.trod enc P w 0 sp held fuel t [c] = some y) : ∃ s : ByteArray, c = .string s := by
  obtain ⟨s, hs, _⟩ := DataW.trod_string ht h
  simp only [List.cons.injEq, and_true] at hs
  exact ⟨s, hs⟩

/-- A cell that is a slice of strings. -/
theorem open_strs {sp : Nat → Bool} {held : Bool} {t e : TypeId} {fuel : Nat} {c : Value} {y : DataW H × List MemPlace} (ht : P.underlying t = some (.slice e)) (he : P.underlying e = some .string) (hk : P.cellsOf e = 1) {B : Nat} (hB : Rows.uptoBulk y.1 ≤ B) (h : DataW.trod enc P w 0 sp held fuel t [c] = some y) :
    ∃ (a : Option Addr) (cap : Nat) (bs : List ByteArray), c = .slice a bs.length cap ∧ bs.length ≤ B ∧ Sl w w.heap.size a (bs.map Value.string) := by
  obtain ⟨a, cap, xs, h1, hb, h2, _⟩ := open_els (fun s : ByteArray => [Value.string s]) (fun _ => True) ht hk (by omega) hB (fun n l y' hl _ hy => by
    match l, hl with
    | [c'], _ =>
      obtain ⟨s, rfl⟩ := open_str he hy
      exact ⟨s, rfl, trivial⟩) h
  refine ⟨a, cap, xs, h1, hb, ?_⟩
  rw [← List.flatMap_singleton' (xs.map Value.string), List.flatMap_map]
  exact h2

/-- The reading of a slice has as many parts as the slice has elements. -/
theorem trod_len {sp : Nat → Bool} {held : Bool} {t e : TypeId} {fuel : Nat} {a : Option Addr} {len cap : Nat} {y : DataW H × List MemPlace} (ht : P.underlying t = some (.slice e)) (h : DataW.trod enc P w 0 sp held fuel t [.slice a len cap] = some y) :
    len = 0 ∨ ∃ es rs, y.1 = .slice es rs ∧ es.length = len := by
  rcases DataW.trod_slice ht h with ⟨hcs, _⟩ | ⟨x, l, c, elems, rest, n, _, hcs, hx, _, _, _, hlen, _⟩
  · simp only [List.cons.injEq, Value.slice.injEq, and_true] at hcs
    exact Or.inl hcs.2.1
  · simp only [List.cons.injEq, Value.slice.injEq, and_true] at hcs
    exact Or.inr ⟨_, _, by rw [hx], by rw [List.length_map, hlen, hcs.2.1]⟩

end

end Go.Proofs.Ytdlnnkbigeiilaa

/- Arguments of deep types are opened, with what the form's own reach says of each part's size. No condition. -/
namespace Go.Proofs.Ytdlnnkbigeiilaa
open Go.ChangeShapes Go.WideShapes Go.ChangeAt Go.RowKit

/-- No part of a datum is above the form's reach. -/
def Wt {H : Type} (P : Program) (t : TypeId) (d : DataW H) : Prop := ∀ n ∈ DataW.weights P t d, n ≤ reachBytes
theorem weightsAll_mem {H : Type} {P : Program} {e : TypeId} : ∀ {l : List (DataW H)} {d : DataW H}, d ∈ l → ∀ n ∈ DataW.weights P e d, n ∈ DataW.weightsAll P e l
  | x :: l, d, hd, n, hn => by
    simp only [DataW.weightsAll, List.mem_append]
    rcases List.mem_cons.1 hd with rfl | h
    · exact Or.inl hn
    · exact Or.inr (weightsAll_mem h n hn)
theorem Wt.slice {H : Type} {P : Program} {t e : TypeId} {elems spare : List (DataW H)} (ht : P.underlying t = some (.slice e)) (h : Wt P t (.slice elems spare)) : elems.length * P.bytesOf e ≤ reachBytes ∧ ∀ d ∈ elems, Wt P e d := by
  unfold Wt at h
  simp only [DataW.weights, ht, List.mem_cons, List.mem_append] at h
  refine ⟨Nat.le_trans (Nat.mul_le_mul_right _ (Nat.le_add_right _ _)) (h _ (Or.inl rfl)), fun d hd n hn => h n (Or.inr (Or.inl (weightsAll_mem hd n hn)))⟩
theorem Wt.agg {H : Type} {P : Program} {t : TypeId} {fs : Array Go.Field} {parts : List (DataW H)} (ht : P.underlying t = some (.struct fs)) (h : Wt P t (.agg parts)) : ∀ (j : Nat) (f : Go.Field) (d : DataW H), fs[j]? = some f → parts[j]? = some d → Wt P f.type d := by
  intro j f d hj hd n hn
  unfold Wt at h
  simp only [DataW.weights, ht] at h
  exact h n (DataW.weights_mem_each (ts := fs.toList.map (·.type)) (by rw [List.getElem?_map, Array.getElem?_toList, hj]; rfl) hd n hn)
theorem Wt.arg {H : Type} {P : Program} {ts : List TypeId} {ds : List (DataW H)} (h : (DataW.weightsEach P ts ds).all (· ≤ reachBytes) = true) {j : Nat} {t : TypeId} {d : DataW H} (ht : ts[j]? = some t) (hd : ds[j]? = some d) : Wt P t d :=
  fun n hn => of_decide_eq_true (List.all_eq_true.1 h _ (DataW.weights_mem_each ht hd n hn))

section
variable {H : Type} {enc : TypeId × Value → H} {P : Program} {w : World}

/-- A cell that is a slice of elements of k cells: all its elements' cells, each element with its own reading. -/
theorem open_flatW {sp : Nat → Bool} {held : Bool} {t e : TypeId} {k fuel : Nat} {c : Value} {y : DataW H × List MemPlace} (ht : P.underlying t = some (.slice e)) (hk : P.cellsOf e = k) (hk0 : 0 < k) (hW : Wt P t y.1)
    (h : DataW.trod enc P w 0 sp held fuel t [c] = some y) :
    ∃ (a : Option Addr) (cap : Nat) (css : List (List Value)), c = .slice a css.length cap ∧ css.length * P.bytesOf e ≤ reachBytes ∧ (a = none → cap = 0) ∧ (∀ l ∈ css, l.length = k) ∧ Sl w w.heap.size a css.flatten ∧
      ∀ l ∈ css, ∃ n y', Wt P e y'.1 ∧ DataW.trod enc P w 0 sp held n e l = some y' := by
  have hlt := DataW.trod_lt _ _ _ _ h
  rcases DataW.trod_slice ht h with ⟨hcs, _⟩ | ⟨x, len, cap, elems, rest, n, _, hcs, hx, hb, hl, hm, hlen, hel, _, _⟩
  · simp only [List.cons.injEq, and_true] at hcs
    exact ⟨none, 0, [], hcs, by simp, fun _ => rfl, by simp, Or.inl rfl, by simp⟩
  simp only [List.cons.injEq, and_true] at hcs
  subst hcs
  by_cases h0 : len = 0
  · subst h0
    exact ⟨some x, cap, [], rfl, by simp, by simp, by simp, Or.inl rfl, by simp⟩
  have hbk := Wt.slice (elems := elems.map (·.1)) (spare := rest.map (·.1)) ht (by rw [hx] at hW; exact hW)
  have each : ∀ i, i < len → ∃ l y', w.cells? 0 (x.add (i * k)) k = some l ∧ Wt P e y'.1 ∧ DataW.trod enc P w 0 sp held n e l = some y' := by
    intro i hi
    have h1 := hel i hi
    rw [hk, show elems[i]? = some (elems[i]'(by omega)) from List.getElem?_eq_getElem (by omega), Option.bind_eq_some_iff] at h1
    obtain ⟨l, hl, hy⟩ := h1
    exact ⟨l, _, hl, hbk.2 _ (List.mem_map.2 ⟨_, List.getElem_mem _, rfl⟩), hy⟩
  obtain ⟨b, off, spot⟩ := x
  have hspot : spot = none := by
    obtain ⟨l, _, h1, _⟩ := each 0 (by omega)
    obtain ⟨_, h2, h3⟩ := World.cells?_some h1
    have h4 := h3 0 hk0
    obtain ⟨v, hv⟩ : ∃ v, l[0]? = some v := ⟨_, List.getElem?_eq_getElem (by omega)⟩
    rw [hv, Deep.add_add, Nat.zero_mul, Nat.zero_add] at h4
    simpa [Addr.add] using World.cell?_spot h4
  subst hspot
  have hbW : b < w.heap.size := hlt (.cell b off) (by
    rw [hx]
    exact List.mem_append_left _ (MemPlace.mem_row.2 ⟨0, by rw [hk]; have : 0 < (elems.length + rest.length) * k := Nat.mul_pos (by omega) hk0; omega, by simp⟩))
  have hL : ∀ i, i < len → ((List.range k).map fun j => (w.cell? ⟨b, off + (i * k + j), none⟩).getD (.bool false)).length = k ∧
      (∀ j, j < k → w.cell? ⟨b, off + (i * k + j), none⟩ = some ((w.cell? ⟨b, off + (i * k + j), none⟩).getD (.bool false))) ∧
      ∃ y', Wt P e y'.1 ∧ DataW.trod enc P w 0 sp held n e ((List.range k).map fun j => (w.cell? ⟨b, off + (i * k + j), none⟩).getD (.bool false)) = some y' := by
    intro i hi
    obtain ⟨l, y', h1, h2b, h2⟩ := each i hi
    obtain ⟨_, h3, h4⟩ := World.cells?_some h1
    have h5 : ∀ j, j < k → w.cell? ⟨b, off + (i * k + j), none⟩ = l[j]? := by
      intro j hj
      have := h4 j hj
      rwa [Deep.add_add, add_plain] at this
    have e1 : (List.range k).map (fun j => (w.cell? ⟨b, off + (i * k + j), none⟩).getD (.bool false)) = l := by
      apply List.ext_getElem?
      intro j
      by_cases hj : j < k
      · rw [List.getElem?_map, List.getElem?_range hj, Option.map_some, h5 j hj, List.getElem?_eq_getElem (show j < l.length by omega), Option.getD_some]
      · rw [List.getElem?_eq_none (by simp; omega), List.getElem?_eq_none (by omega)]
    refine ⟨by simp, ?_, ?_⟩
    · intro j hj
      rw [h5 j hj, List.getElem?_eq_getElem (show j < l.length by omega), Option.getD_some]
    · rw [e1]; exact ⟨y', h2b, h2⟩
  refine ⟨some ⟨b, off, none⟩, cap, (List.range len).map fun i => (List.range k).map fun j => (w.cell? ⟨b, off + (i * k + j), none⟩).getD (.bool false), by simp, ?_, by simp, ?_, Or.inr ⟨b, off, rfl, hbW, ?_⟩, ?_⟩
  · have := hbk.1; rw [List.length_map, hlen] at this; simpa using this
  · intro l hl
    obtain ⟨i, _, rfl⟩ := List.mem_map.1 hl
    simp
  · have hflat := flat_range (fun m => (w.cell? ⟨b, off + m, none⟩).getD (.bool false)) k len
    intro i v hv
    rw [hflat] at hv
    have hi : i < len * k := by have := (List.getElem?_eq_some_iff.1 hv).1; simpa using this
    have hq : i / k < len := Nat.div_lt_of_lt_mul (by rwa [Nat.mul_comm] at hi)
    have hc := (hL (i / k) hq).2.1 (i % k) (Nat.mod_lt _ hk0)
    rw [show i / k * k + i % k = i by rw [Nat.mul_comm]; exact Nat.div_add_mod i k] at hc
    rw [hc, ← hv, List.getElem?_map, List.getElem?_range hi, Option.map_some]
  · intro l hl
    obtain ⟨i, hi, rfl⟩ := List.mem_map.1 hl
    obtain ⟨y', hyb, hy⟩ := (hL i (List.mem_range.1 hi)).2.2
    exact ⟨n, y', hyb, hy⟩

/-- The same, each element of a shape that is known. -/
theorem open_elsW {α : Type} (f : α → List Value) (R : α → Prop) {sp : Nat → Bool} {held : Bool} {t e : TypeId} {k fuel : Nat} {c : Value} {y : DataW H × List MemPlace} (ht : P.underlying t = some (.slice e)) (hk : P.cellsOf e = k) (hk0 : 0 < k) (hW : Wt P t y.1)
    (hel : ∀ n l y', l.length = k → Wt P e y'.1 → DataW.trod enc P w 0 sp held n e l = some y' → ∃ x, l = f x ∧ R x) (h : DataW.trod enc P w 0 sp held fuel t [c] = some y) :
    ∃ (a : Option Addr) (cap : Nat) (xs : List α), c = .slice a xs.length cap ∧ xs.length * P.bytesOf e ≤ reachBytes ∧ (a = none → cap = 0) ∧ Sl w w.heap.size a (xs.flatMap f) ∧ ∀ x ∈ xs, R x := by
  obtain ⟨a, cap, css, rfl, hlB, hno, hl, hs, he⟩ := open_flatW ht hk hk0 hW h
  obtain ⟨xs, h1, h2, h3⟩ := list_shapes f R css (fun l hm => by
    obtain ⟨n, y', hyb, hy⟩ := he l hm
    exact hel n l y' (hl l hm) hyb hy)
  exact ⟨a, cap, xs, by rw [h1], by rw [h1]; exact hlB, hno, h2 ▸ hs, h3⟩

/-- A struct whose fields are of one cell each. -/
theorem open_cellsW {sp : Nat → Bool} {held : Bool} {t : TypeId} {fs : Array Go.Field} {fuel : Nat} {cs : List Value} {y : DataW H × List MemPlace} (hs : P.underlying t = some (.struct fs)) (hone : Go.Deep.oneCellFields P fs = true) (hC : P.cellsOf t = fs.size) (hW : Wt P t y.1)
    (h : DataW.trod enc P w 0 sp held fuel t cs = some y) :
    cs.length = fs.size ∧ ∀ (j : Nat) (f : Go.Field) (c : Value), fs[j]? = some f → cs[j]? = some c → ∃ n y', Wt P f.type y'.1 ∧ DataW.trod enc P w 0 sp held n f.type [c] = some y' := by
  obtain ⟨ys, n, _, hy, hcl, hlen, hg⟩ := DataW.trod_struct hs h
  have hbk := Wt.agg (parts := ys.map (·.1)) hs (by rw [hy] at hW; exact hW)
  refine ⟨by omega, fun j f c hj hc => ?_⟩
  obtain ⟨ho, hk⟩ := Go.Deep.hone_of hone j f hj
  have hjf : j < fs.size := (Array.getElem?_eq_some_iff.1 hj).1
  have h1 := hg j f hj
  have hjc := (List.getElem?_eq_some_iff.1 hc).1
  rw [ho, hk, List.drop_eq_getElem_cons hjc, List.take_succ_cons, List.take_zero, (List.getElem?_eq_some_iff.1 hc).2, List.getElem?_eq_getElem (show j < ys.length by omega)] at h1
  exact ⟨n, _, hbk j f _ hj (by rw [List.getElem?_map, List.getElem?_eq_getElem (show j < ys.length by omega)]; rfl), h1⟩

/-- A cell that is a slice of strings. -/
theorem open_strsW {sp : Nat → Bool} {held : Bool} {t e : TypeId} {fuel : Nat} {c : Value} {y : DataW H × List MemPlace} (ht : P.underlying t = some (.slice e)) (he : P.underlying e = some .string) (hk : P.cellsOf e = 1) (hW : Wt P t y.1) (h : DataW.trod enc P w 0 sp held fuel t [c] = some y) :
    ∃ (a : Option Addr) (cap : Nat) (bs : List ByteArray), c = .slice a bs.length cap ∧ bs.length * P.bytesOf e ≤ reachBytes ∧ (a = none → cap = 0) ∧ Sl w w.heap.size a (bs.map Value.string) := by
  obtain ⟨a, cap, xs, h1, hb, hno, h2, _⟩ := open_elsW (fun s : ByteArray => [Value.string s]) (fun _ => True) ht hk (by omega) hW (fun n l y' hl _ hy => by
    match l, hl with
    | [c'], _ =>
      obtain ⟨s, rfl⟩ := open_str he hy
      exact ⟨s, rfl, trivial⟩) h
  refine ⟨a, cap, xs, h1, hb, hno, ?_⟩
  rw [← List.flatMap_singleton' (xs.map Value.string), List.flatMap_map]
  exact h2

end

end Go.Proofs.Ytdlnnkbigeiilaa

/- Arguments of the laws of chapter 7: strings with their sizes, lists of strings with sizes and room. Condition: they are as the row says. -/
namespace Go.Proofs.Ytdlnnkbigeiilaa
open Go.ChangeShapes Go.WideShapes Go.ChangeAt Go.RowKit

theorem Wt.str7 {H : Type} {enc : TypeId × Value → H} {P : Program} {w : World} {sp : Nat → Bool} {held : Bool} {t : TypeId} {fuel : Nat} {s : ByteArray} {y : DataW H × List MemPlace} (ht : P.underlying t = some .string) (hW : Wt P t y.1) (h : DataW.trod enc P w 0 sp held fuel t [.string s] = some y) : s.size ≤ reachBytes := by
  obtain ⟨s', hs, hy, _⟩ := DataW.trod_string ht h
  simp only [List.cons.injEq, and_true, Value.string.injEq] at hs
  subst hs
  rw [hy] at hW
  exact hW s.data.toList.length (by simp [DataW.weights])
/-- A cell that is a slice of strings, each string's size with it, and its room. -/
theorem open_strsC {H : Type} {enc : TypeId × Value → H} {P : Program} {w : World} {sp : Nat → Bool} {held : Bool} {t e : TypeId} {fuel : Nat} {c : Value} {y : DataW H × List MemPlace} (ht : P.underlying t = some (.slice e)) (he : P.underlying e = some .string) (hk : P.cellsOf e = 1) (hW : Wt P t y.1) (h : DataW.trod enc P w 0 sp held fuel t [c] = some y) :
    ∃ (a : Option Addr) (cap : Nat) (bs : List ByteArray), c = .slice a bs.length cap ∧ bs.length * P.bytesOf e ≤ reachBytes ∧ Sl w w.heap.size a (bs.map Value.string) ∧ (∀ x ∈ bs, x.size ≤ reachBytes) ∧ bs.length ≤ cap ∧ (a = none → cap = 0) := by
  obtain ⟨a, cap, xs, h1, hb, hno, h2, h3⟩ := open_elsW (fun s : ByteArray => [Value.string s]) (fun s => s.size ≤ reachBytes) ht hk (by omega) hW (fun n l y' hl hw hy => by
    match l, hl with
    | [c'], _ =>
      obtain ⟨s, rfl⟩ := open_str he hy
      exact ⟨s, rfl, Wt.str7 he hw hy⟩) h
  refine ⟨a, cap, xs, h1, hb, ?_, h3, ?_, hno⟩
  · rw [← List.flatMap_singleton' (xs.map Value.string), List.flatMap_map]
    exact h2
  · rw [h1] at h
    rcases DataW.trod_slice ht h with ⟨hcs, _⟩ | ⟨x, len, cap', elems, rest, n', _, hcs, hx, hb, hl, hm, hlen, hel, _, _⟩
    · simp only [List.cons.injEq, Value.slice.injEq, and_true] at hcs
      omega
    · simp only [List.cons.injEq, Value.slice.injEq, and_true] at hcs
      omega
theorem str7_cells : Try.prog.cellsOf 9 = 1 := by kernel_rfl
theorem str7_bytes : Try.prog.bytesOf 9 = 16 := by kernel_rfl
theorem reach7_lt : reachBytes < 140737488355328 := by decide
end Go.Proofs.Ytdlnnkbigeiilaa

namespace Go.Proofs.Ytdlnnkbigeiilaa
open Go.ChangeShapes Go.WideShapes Go.ChangeAt Go.RowKit

/-- The digests of the blocks, as strings. -/
def partsS (xs : List ByteArray) (lo hi : Int) : List ByteArray := if 0 ≤ lo ∧ lo ≤ hi ∧ hi ≤ xs.length ∧ xs.length ≤ 1048576 then (cover lo.toNat hi.toNat).map (fun x => blockH bothS leafS (x.2 - x.1).toNat ((xs.drop x.1.toNat).take (x.2 - x.1).toNat)) else []
theorem partsV_eq (xs : List ByteArray) (lo hi : Int) : partsV xs lo hi = (partsS xs lo hi).map Value.string := by
  unfold partsV partsS
  split
  · rw [List.map_map]; rfl
  · rfl
theorem partsS_len (xs : List ByteArray) (lo hi : Int) : (partsS xs lo hi).length ≤ 1048576 := by
  unfold partsS
  split
  next h =>
    rw [List.length_map]
    have := cover_length lo.toNat hi.toNat
    omega
  next => exact Nat.zero_le _

set_option maxRecDepth 100000 in
set_option maxHeartbeats 2000000 in
theorem boardBlocks_any (xs : List ByteArray) (n : Nat) (hn : xs.length = n) (hz : ∀ x ∈ xs, x.size < 140737488355328) (a : Option Addr) (c0 : Nat) (hc0 : n ≤ c0) (lo hi size : Int) (ds : List ByteArray) (m : Nat) (hm : ds.length = m) (hm2 : m ≤ 1152921504606846976) (ab : Option Addr) (cb : Nat) (hac : ab = none → cb = 0) (w : World) (hX : Sl w w.heap.size a (xs.map Value.string)) (hY : Sl w w.heap.size ab (ds.map Value.string)) :
    Calls Try.prog 5 #[.slice a n c0, .int .i64 lo, .int .i64 hi, .int .i64 size, .slice ab m cb] w fun e w' => e = .returned (.bool true) ∧ Below w.heap.size w w' := by
  have H1 := Lib.hid (fun w h => Blocks_any xs n hn hz a c0 hc0 lo hi w h)
  have H2 := Lib.hid (fun w h => rBlocks_any xs n hn hz a c0 hc0 lo hi w h)
  have H3 := Lib.hid (fun w h => Head_any size ds m hm hm2 ab cb hac w h)
  have H4 := Lib.hid (fun w h => rHead_any size ds m hm hm2 ab cb hac w h)
  have HPL := Lib.hid (partsS_len xs lo hi)
  have HPV := Lib.hid (partsV_eq xs lo hi)
  unfold BlocksPost at H1 H2
  rw [HPV.out, List.length_map] at H1 H2
  unfold Gives at H3 H4
  generalize partsV xs lo hi = PV at *
  generalize partsS xs lo hi = PS at *
  generalize partsE xs lo hi = pe at *
  generalize (headR size ds).1 = hs at *
  generalize (headR size ds).2 = he at *
  have HX := Lib.hid hX
  have HY := Lib.hid hY
  have hd1 : (pe != pe) = false := by simp
  have hd2 : (he == he) = true := by simp
  have hd3 : (hs.toList == hs.toList) = true := by simp
  have HSM := Lib.hid (fun a1 a2 c1 c2 w h1 h2 => same7_any PS PS a1 a2 c1 c2 (by have := HPL.out; omega) true (by simp) w h1 h2)
  unfold Gives at HSM
  obtain ⟨k, hk⟩ : ∃ k, PS.length = k := ⟨_, rfl⟩
  rw [hk] at H1 H2 HSM
  clear hX hY hn hz hm hk HPV
  go_enter Try.func5, Try.ntmps5
  go_wp2_with fail
  refine (H1.out w HX.out).mono ?_
  rintro e wa ⟨v1, rfl, hr1, hb1⟩
  obtain ⟨a1, c1, rfl⟩ := RowO.form hr1
  have HB := Lib.hid hb1
  have HR1 := Lib.hid (RowO.sl hr1)
  clear hr1 hb1
  have B1 := Lib.hid (Below.refl wa.heap.size wa)
  go_wp2_with fail
  refine (H2.out wa (HX.out.up HB.out)).mono ?_
  rintro e wb ⟨v2, rfl, hr2, hb9⟩
  obtain ⟨a2, c2, rfl⟩ := RowO.form hr2
  have HR2 := Lib.hid (RowO.sl hr2)
  clear hr2
  replace B1 := hbu B1 hb9
  replace HB := hbu HB hb9
  have HZS := Lib.hid hb9.size
  clear hb9
  go_wp2_with fail
  refine (HSM.out a1 a2 c1 c2 wb (HR1.out.up B1.out) HR2.out).mono ?_
  rintro e w1 ⟨rfl, hb9⟩
  replace B1 := hbu B1 hb9
  replace HB := hbu HB hb9
  replace HZS := sz HZS hb9.size
  clear hb9
  go_wp2_with fail
  refine (H3.out w1 (HY.out.up HB.out)).mono ?_
  rintro e w2 ⟨rfl, hb9⟩
  replace B1 := hbu B1 hb9
  replace HB := hbu HB hb9
  replace HZS := sz HZS hb9.size
  clear hb9
  go_wp2_with fail
  refine (H4.out w2 (HY.out.up HB.out)).mono ?_
  rintro e w3 ⟨rfl, hb9⟩
  replace B1 := hbu B1 hb9
  replace HB := hbu HB hb9
  replace HZS := sz HZS hb9.size
  clear hb9
  go_wp2_with fail
  go_ret
  exact ⟨rfl, HB.out⟩

set_option maxRecDepth 100000 in
theorem boardBlocks_calls {H : Type} (enc : TypeId × Value → H) (W : World) (base : Nat) {v0 v1 v2 v3 v4 : Value} {d0 d1 d2 d3 d4 : DataW H} {p0 p1 p2 p3 p4 : List MemPlace}
    (h0 : DataW.Trod enc Try.prog W 0 (fun _ => true) true 22 v0 d0 p0) (h1 : DataW.Trod enc Try.prog W 0 (fun _ => true) true 3 v1 d1 p1) (h2 : DataW.Trod enc Try.prog W 0 (fun _ => true) true 3 v2 d2 p2) (h3 : DataW.Trod enc Try.prog W 0 (fun _ => true) true 3 v3 d3 p3) (h4 : DataW.Trod enc Try.prog W 0 (fun _ => true) true 22 v4 d4 p4)
    (k0 : Value.okWide Try.prog W .any base 22 v0) (k1 : Value.okWide Try.prog W .any base 3 v1) (k2 : Value.okWide Try.prog W .any base 3 v2) (k3 : Value.okWide Try.prog W .any base 3 v3) (k4 : Value.okWide Try.prog W .any base 22 v4)
    (_lt0 : ∀ x ∈ p0, x.block < W.heap.size) (_lt1 : ∀ x ∈ p1, x.block < W.heap.size) (_lt2 : ∀ x ∈ p2, x.block < W.heap.size) (_lt3 : ∀ x ∈ p3, x.block < W.heap.size) (_lt4 : ∀ x ∈ p4, x.block < W.heap.size)
    (hsz : (DataW.weightsEach Try.prog ([22, 3, 3, 3, 22] ++ Rows.boardBlocksSpec.plain.varTypes Try.prog) ([d0, d1, d2, d3, d4] ++ [])).all (· ≤ reachBytes) = true) :
    Calls Try.prog 5 #[v0, v1, v2, v3, v4] W fun e w' => e = .returned (.bool true) ∧ Below W.heap.size W w' := by
  obtain ⟨b0, n0, m0, rfl⟩ := okWide_slice Try.underlying22 k0
  obtain ⟨lo, rfl, _, _, _⟩ := open_int Try.underlying3 k1 h1
  obtain ⟨hi, rfl, _, _, _⟩ := open_int Try.underlying3 k2 h2
  obtain ⟨size, rfl, _, _, _⟩ := open_int Try.underlying3 k3 h3
  obtain ⟨b4, n4, m4, rfl⟩ := okWide_slice Try.underlying22 k4
  obtain ⟨f0, h0⟩ := h0
  obtain ⟨f4, h4⟩ := h4
  obtain ⟨ax, cx, xs, e0, hx, hS, hz, hcp, _⟩ := open_strsC Try.underlying22 Try.underlying9 str7_cells (Wt.arg hsz (j := 0) rfl rfl) h0
  obtain ⟨ay, cy, ys, e4, hy, hS4, hz4, _, hno⟩ := open_strsC Try.underlying22 Try.underlying9 str7_cells (Wt.arg hsz (j := 4) rfl rfl) h4
  rw [str7_bytes] at hx hy
  rw [e0, e4]
  exact boardBlocks_any xs xs.length rfl (fun x hm => Nat.lt_of_le_of_lt (hz x hm) reach7_lt) ax cx hcp lo hi size ys ys.length rfl (by have := reach7_lt; omega) ay cy hno W hS hS4

set_option maxRecDepth 100000 in
theorem boardBlocks_lifted (os : Os) (started : os.Started) (H : Type) (enc : TypeId × Value → H) :
    ReturnsInHanded {} Try.checked os 5 .any (Rows.boardBlocksSpec.pre6 enc Try.prog Try.f5 Rows.boardBlocksRow.domain false) (Rows.boardBlocksSpec.post enc Try.prog Try.f5 false true false false) := by
  refine returnsInHanded_of_change_sized (C := Try.checked) law_own started (by kernel_rfl) Try.func5
    (ChangeSpec.witness6 (enc := enc) (C := Try.checked) false ⟨#[], #[.slice none 0 0, .int .i64 0, .int .i64 0, .int .i64 0, .slice none 0 0], []⟩ 8 (by kernel_rfl) (by kernel_rfl) (by kernel_rfl) (by kernel_rfl)) ?_
  intro W base args ds gs before hval0 hW _ hsz0 _
  have hsz : (DataW.weightsEach Try.prog (Try.f5.params.toList ++ Rows.boardBlocksSpec.plain.varTypes Try.prog) (ds ++ gs)).all (· ≤ reachBytes) = true := hsz0
  clear hsz0
  have hval : ∀ (j : Nat) t v, Try.f5.params[j]? = some t → args[j]? = some v → Value.okWide Try.prog W .any base t v := hval0
  have hW' := hW
  obtain ⟨p, q, hA0, hV, rfl, _, _⟩ := hW
  have hA : DataW.TrodAll enc Try.prog W 0 (fun _ => true) true Try.f5.params.toList args.toList ds p := hA0
  rw [Try.params5] at hA hval hsz
  obtain ⟨v0, vs0, d0, ds0, p0, q0, hargs, rfl, rfl, h0, r0⟩ := trodAll_cons hA
  obtain ⟨v1, vs1, d1, ds1, p1, q1, rfl, rfl, rfl, h1, r1⟩ := trodAll_cons r0
  obtain ⟨v2, vs2, d2, ds2, p2, q2, rfl, rfl, rfl, h2, r2⟩ := trodAll_cons r1
  obtain ⟨v3, vs3, d3, ds3, p3, q3, rfl, rfl, rfl, h3, r3⟩ := trodAll_cons r2
  obtain ⟨v4, vs4, d4, ds4, p4, q4, rfl, rfl, rfl, h4, r4⟩ := trodAll_cons r3
  obtain ⟨rfl, rfl, rfl⟩ := trodAll_nil r4
  obtain rfl : args = #[v0, v1, v2, v3, v4] := by cases args; simp_all
  obtain ⟨rfl, rfl⟩ := trodVars_none hV
  have lt0 : ∀ x ∈ p0, x.block < W.heap.size := by obtain ⟨m, hm⟩ := h0; exact DataW.trod_lt m _ _ _ hm
  have lt1 : ∀ x ∈ p1, x.block < W.heap.size := by obtain ⟨m, hm⟩ := h1; exact DataW.trod_lt m _ _ _ hm
  have lt2 : ∀ x ∈ p2, x.block < W.heap.size := by obtain ⟨m, hm⟩ := h2; exact DataW.trod_lt m _ _ _ hm
  have lt3 : ∀ x ∈ p3, x.block < W.heap.size := by obtain ⟨m, hm⟩ := h3; exact DataW.trod_lt m _ _ _ hm
  have lt4 : ∀ x ∈ p4, x.block < W.heap.size := by obtain ⟨m, hm⟩ := h4; exact DataW.trod_lt m _ _ _ hm
  clear hA0 hval0
  refine (boardBlocks_calls enc W base h0 h1 h2 h3 h4 (hval 0 22 v0 rfl rfl) (hval 1 3 v1 rfl rfl) (hval 2 3 v2 rfl rfl) (hval 3 3 v3 rfl rfl) (hval 4 22 v4 rfl rfl) lt0 lt1 lt2 lt3 lt4 hsz).mono fun e W' ⟨he, bel⟩ => ?_
  subst he
  exact ⟨_, rfl, _, _, _, [], _, [], hW', trodAll_mk1 (shut_bool Try.underlying4 _), (trodAll_cons_mk (Below.trod law_laidOut (by kernel_rfl) (of_decide_eq_true (by kernel_rfl)) h0 bel lt0) (trodAll_cons_mk (Below.trod law_laidOut (by kernel_rfl) (of_decide_eq_true (by kernel_rfl)) h1 bel lt1) (trodAll_cons_mk (Below.trod law_laidOut (by kernel_rfl) (of_decide_eq_true (by kernel_rfl)) h2 bel lt2) (trodAll_cons_mk (Below.trod law_laidOut (by kernel_rfl) (of_decide_eq_true (by kernel_rfl)) h3 bel lt3) (trodAll_cons_mk (Below.trod law_laidOut (by kernel_rfl) (of_decide_eq_true (by kernel_rfl)) h4 bel lt4) trodAll_mk0))))), rfl, bel.frame _, fun h => by cases h⟩

theorem boardBlocks_holds : Rows.BoardBlocksSaid :=
  OpenClaim.holds_of_wide 5 Try.f5 rfl rfl rfl rfl rfl rfl rfl ⟨rfl, rfl, rfl, rfl, rfl⟩ rfl rfl rfl rfl rfl (by kernel_rfl) Try.func5 (by kernel_rfl)
    (of_decide_eq_true (by kernel_rfl)) (by unfold Func.isWrapper; first | (rw [if_pos (by decide +kernel)]; kernel_rfl) | (rw [if_neg (by decide +kernel)]; exact ⟨rfl, rfl⟩))
    (fun os started H enc _ => boardBlocks_lifted os started H enc)
#print axioms boardBlocks_holds



end Go.Proofs.Ytdlnnkbigeiilaa
