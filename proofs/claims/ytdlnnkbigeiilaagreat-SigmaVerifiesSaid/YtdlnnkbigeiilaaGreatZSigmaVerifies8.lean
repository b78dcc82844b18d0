/- SigmaVerifies: Verify of anything answers what the document says. No condition. -/
import Derived.Test.YtdlnnkbigeiilaaGreatZSigmaVerifies7

/- Arguments of deep types are opened, with what the form's own reach says of each part's size. No condition. -/
namespace Go.Proofs.YtdlnnkbigeiilaaGreat
open Go.ChangeShapes Go.WideShapes Go.ChangeAt Go.RowKit

/-- No part of a datum is above the form's reach. -/
def Wt {H : Type} (P : Program) (t : TypeId) (d : DataW H) : Prop := ∀ n ∈ DataW.weights P t d, n ≤ reachBytes
theorem weightsAll_mem {H : Type} {P : Program} {e : TypeId} : ∀ {l : List (DataW H)} {d : DataW H}, d ∈ l → ∀ n ∈ DataW.weights P e d, n ∈ DataW.weightsAll P e l
  | x :: l, d, hd, n, hn => by
    simp only [DataW.weightsAll, List.mem_append]
    rcases List.mem_cons.1 hd with rfl | h
    · exact Or.inl hn
    · exact Or.inr (weightsAll_mem h n hn)
theorem Wt.slice {H : Type} {P : Program} {t e : TypeId} {elems spare : List (DataW H)} (ht : P.underlying t = some (.slice e)) (h : Wt P t (.slice elems spare)) : elems.length * P.bytesOf e ≤ reachBytes ∧ ∀ d ∈ elems, Wt P e d := by
  unfold Wt at h
  simp only [DataW.weights, ht, List.mem_cons, List.mem_append] at h
  refine ⟨Nat.le_trans (Nat.mul_le_mul_right _ (Nat.le_add_right _ _)) (h _ (Or.inl rfl)), fun d hd n hn => h n (Or.inr (Or.inl (weightsAll_mem hd n hn)))⟩
theorem Wt.agg {H : Type} {P : Program} {t : TypeId} {fs : Array Go.Field} {parts : List (DataW H)} (ht : P.underlying t = some (.struct fs)) (h : Wt P t (.agg parts)) : ∀ (j : Nat) (f : Go.Field) (d : DataW H), fs[j]? = some f → parts[j]? = some d → Wt P f.type d := by
  intro j f d hj hd n hn
  unfold Wt at h
  simp only [DataW.weights, ht] at h
  exact h n (DataW.weights_mem_each (ts := fs.toList.map (·.type)) (by rw [List.getElem?_map, Array.getElem?_toList, hj]; rfl) hd n hn)
theorem Wt.arg {H : Type} {P : Program} {ts : List TypeId} {ds : List (DataW H)} (h : (DataW.weightsEach P ts ds).all (· ≤ reachBytes) = true) {j : Nat} {t : TypeId} {d : DataW H} (ht : ts[j]? = some t) (hd : ds[j]? = some d) : Wt P t d :=
  fun n hn => of_decide_eq_true (List.all_eq_true.1 h _ (DataW.weights_mem_each ht hd n hn))

section
variable {H : Type} {enc : TypeId × Value → H} {P : Program} {w : World}

/-- A cell that is a slice of elements of k cells: all its elements' cells, each element with its own reading. -/
theorem open_flatW {sp : Nat → Bool} {held : Bool} {t e : TypeId} {k fuel : Nat} {c : Value} {y : DataW H × List MemPlace} (ht : P.underlying t = some (.slice e)) (hk : P.cellsOf e = k) (hk0 : 0 < k) (hW : Wt P t y.1)
    (h : DataW.trod enc P w 0 sp held fuel t [c] = some y) :
    ∃ (a : Option Addr) (cap : Nat) (css : List (List Value)), c = .slice a css.length cap ∧ css.length * P.bytesOf e ≤ reachBytes ∧ (a = none → cap = 0) ∧ (∀ l ∈ css, l.length = k) ∧ Sl w w.heap.size a css.flatten ∧
      ∀ l ∈ css, ∃ n y', Wt P e y'.1 ∧ DataW.trod enc P w 0 sp held n e l = some y' := by
  have hlt := DataW.trod_lt _ _ _ _ h
  rcases DataW.trod_slice ht h with ⟨hcs, _⟩ | ⟨x, len, cap, elems, rest, n, _, hcs, hx, hb, hl, hm, hlen, hel, _, _⟩
  · simp only [List.cons.injEq, and_true] at hcs
    exact ⟨none, 0, [], hcs, by simp, fun _ => rfl, by simp, Or.inl rfl, by simp⟩
  simp only [List.cons.injEq, and_true] at hcs
  subst hcs
  by_cases h0 : len = 0
  · subst h0
    exact ⟨some x, cap, [], rfl, by simp, by simp, by simp, Or.inl rfl, by simp⟩
  have hbk := Wt.slice (elems := elems.map (·.1)) (spare := rest.map (·.1)) ht (by rw [hx] at hW; exact hW)
  have each : ∀ i, i < len → ∃ l y', w.cells? 0 (x.add (i * k)) k = some l ∧ Wt P e y'.1 ∧ DataW.trod enc P w 0 sp held n e l = some y' := by
    intro i hi
    have h1 := hel i hi
    rw [hk, show elems[i]? = some (elems[i]'(by omega)) from List.getElem?_eq_getElem (by omega), Option.bind_eq_some_iff] at h1
    obtain ⟨l, hl, hy⟩ := h1
    exact ⟨l, _, hl, hbk.2 _ (List.mem_map.2 ⟨_, List.getElem_mem _, rfl⟩), hy⟩
  obtain ⟨b, off, spot⟩ := x
  have hspot : spot = none := by
    obtain ⟨l, _, h1, _⟩ := each 0 (by omega)
    obtain ⟨_, h2, h3⟩ := World.cells?_some h1
    have h4 := h3 0 hk0
    obtain ⟨v, hv⟩ : ∃ v, l[0]? = some v := ⟨_, List.getElem?_eq_getElem (by omega)⟩
    rw [hv, Deep.add_add, Nat.zero_mul, Nat.zero_add] at h4
    simpa [Addr.add] using World.cell?_spot h4
  subst hspot
  have hbW : b < w.heap.size := hlt (.cell b off) (by
    rw [hx]
    exact List.mem_append_left _ (MemPlace.mem_row.2 ⟨0, by rw [hk]; have : 0 < (elems.length + rest.length) * k := Nat.mul_pos (by omega) hk0; omega, by simp⟩))
  have hL : ∀ i, i < len → ((List.range k).map fun j => (w.cell? ⟨b, off + (i * k + j), none⟩).getD (.bool false)).length = k ∧
      (∀ j, j < k → w.cell? ⟨b, off + (i * k + j), none⟩ = some ((w.cell? ⟨b, off + (i * k + j), none⟩).getD (.bool false))) ∧
      ∃ y', Wt P e y'.1 ∧ DataW.trod enc P w 0 sp held n e ((List.range k).map fun j => (w.cell? ⟨b, off + (i * k + j), none⟩).getD (.bool false)) = some y' := by
    intro i hi
    obtain ⟨l, y', h1, h2b, h2⟩ := each i hi
    obtain ⟨_, h3, h4⟩ := World.cells?_some h1
    have h5 : ∀ j, j < k → w.cell? ⟨b, off + (i * k + j), none⟩ = l[j]? := by
      intro j hj
      have := h4 j hj
      rwa [Deep.add_add, add_plain] at this
    have e1 : (List.range k).map (fun j => (w.cell? ⟨b, off + (i * k + j), none⟩).getD (.bool false)) = l := by
      apply List.ext_getElem?
      intro j
      by_cases hj : j < k
      · rw [List.getElem?_map, List.getElem?_range hj, Option.map_some, h5 j hj, List.getElem?_eq_getElem (show j < l.length by omega), Option.getD_some]
      · rw [List.getElem?_eq_none (by simp; omega), List.getElem?_eq_none (by omega)]
    refine ⟨by simp, ?_, ?_⟩
    · intro j hj
      rw [h5 j hj, List.getElem?_eq_getElem (show j < l.length by omega), Option.getD_some]
    · rw [e1]; exact ⟨y', h2b, h2⟩
  refine ⟨some ⟨b, off, none⟩, cap, (List.range len).map fun i => (List.range k).map fun j => (w.cell? ⟨b, off + (i * k + j), none⟩).getD (.bool false), by simp, ?_, by simp, ?_, Or.inr ⟨b, off, rfl, hbW, ?_⟩, ?_⟩
  · have := hbk.1; rw [List.length_map, hlen] at this; simpa using this
  · intro l hl
    obtain ⟨i, _, rfl⟩ := List.mem_map.1 hl
    simp
  · have hflat := flat_range (fun m => (w.cell? ⟨b, off + m, none⟩).getD (.bool false)) k len
    intro i v hv
    rw [hflat] at hv
    have hi : i < len * k := by have := (List.getElem?_eq_some_iff.1 hv).1; simpa using this
    have hq : i / k < len := Nat.div_lt_of_lt_mul (by rwa [Nat.mul_comm] at hi)
    have hc := (hL (i / k) hq).2.1 (i % k) (Nat.mod_lt _ hk0)
    rw [show i / k * k + i % k = i by rw [Nat.mul_comm]; exact Nat.div_add_mod i k] at hc
    rw [hc, ← hv, List.getElem?_map, List.getElem?_range hi, Option.map_some]
  · intro l hl
    obtain ⟨i, hi, rfl⟩ := List.mem_map.1 hl
    obtain ⟨y', hyb, hy⟩ := (hL i (List.mem_range.1 hi)).2.2
    exact ⟨n, y', hyb, hy⟩

/-- The same, each element of a shape that is known. -/
theorem open_elsW {α : Type} (f : α → List Value) (R : α → Prop) {sp : Nat → Bool} {held : Bool} {t e : TypeId} {k fuel : Nat} {c : Value} {y : DataW H × List MemPlace} (ht : P.underlying t = some (.slice e)) (hk : P.cellsOf e = k) (hk0 : 0 < k) (hW : Wt P t y.1)
    (hel : ∀ n l y', l.length = k → Wt P e y'.1 → DataW.trod enc P w 0 sp held n e l = some y' → ∃ x, l = f x ∧ R x) (h : DataW.trod enc P w 0 sp held fuel t [c] = some y) :
    ∃ (a : Option Addr) (cap : Nat) (xs : List α), c = .slice a xs.length cap ∧ xs.length * P.bytesOf e ≤ reachBytes ∧ (a = none → cap = 0) ∧ Sl w w.heap.size a (xs.flatMap f) ∧ ∀ x ∈ xs, R x := by
  obtain ⟨a, cap, css, rfl, hlB, hno, hl, hs, he⟩ := open_flatW ht hk hk0 hW h
  obtain ⟨xs, h1, h2, h3⟩ := list_shapes f R css (fun l hm => by
    obtain ⟨n, y', hyb, hy⟩ := he l hm
    exact hel n l y' (hl l hm) hyb hy)
  exact ⟨a, cap, xs, by rw [h1], by rw [h1]; exact hlB, hno, h2 ▸ hs, h3⟩

/-- A struct whose fields are of one cell each. -/
theorem open_cellsW {sp : Nat → Bool} {held : Bool} {t : TypeId} {fs : Array Go.Field} {fuel : Nat} {cs : List Value} {y : DataW H × List MemPlace} (hs : P.underlying t = some (.struct fs)) (hone : Go.Deep.oneCellFields P fs = true) (hC : P.cellsOf t = fs.size) (hW : Wt P t y.1)
    (h : DataW.trod enc P w 0 sp held fuel t cs = some y) :
    cs.length = fs.size ∧ ∀ (j : Nat) (f : Go.Field) (c : Value), fs[j]? = some f → cs[j]? = some c → ∃ n y', Wt P f.type y'.1 ∧ DataW.trod enc P w 0 sp held n f.type [c] = some y' := by
  obtain ⟨ys, n, _, hy, hcl, hlen, hg⟩ := DataW.trod_struct hs h
  have hbk := Wt.agg (parts := ys.map (·.1)) hs (by rw [hy] at hW; exact hW)
  refine ⟨by omega, fun j f c hj hc => ?_⟩
  obtain ⟨ho, hk⟩ := Go.Deep.hone_of hone j f hj
  have hjf : j < fs.size := (Array.getElem?_eq_some_iff.1 hj).1
  have h1 := hg j f hj
  have hjc := (List.getElem?_eq_some_iff.1 hc).1
  rw [ho, hk, List.drop_eq_getElem_cons hjc, List.take_succ_cons, List.take_zero, (List.getElem?_eq_some_iff.1 hc).2, List.getElem?_eq_getElem (show j < ys.length by omega)] at h1
  exact ⟨n, _, hbk j f _ hj (by rw [List.getElem?_map, List.getElem?_eq_getElem (show j < ys.length by omega)]; rfl), h1⟩

/-- A cell that is a slice of strings. -/
theorem open_strsW {sp : Nat → Bool} {held : Bool} {t e : TypeId} {fuel : Nat} {c : Value} {y : DataW H × List MemPlace} (ht : P.underlying t = some (.slice e)) (he : P.underlying e = some .string) (hk : P.cellsOf e = 1) (hW : Wt P t y.1) (h : DataW.trod enc P w 0 sp held fuel t [c] = some y) :
    ∃ (a : Option Addr) (cap : Nat) (bs : List ByteArray), c = .slice a bs.length cap ∧ bs.length * P.bytesOf e ≤ reachBytes ∧ (a = none → cap = 0) ∧ Sl w w.heap.size a (bs.map Value.string) := by
  obtain ⟨a, cap, xs, h1, hb, hno, h2, _⟩ := open_elsW (fun s : ByteArray => [Value.string s]) (fun _ => True) ht hk (by omega) hW (fun n l y' hl _ hy => by
    match l, hl with
    | [c'], _ =>
      obtain ⟨s, rfl⟩ := open_str he hy
      exact ⟨s, rfl, trivial⟩) h
  refine ⟨a, cap, xs, h1, hb, hno, ?_⟩
  rw [← List.flatMap_singleton' (xs.map Value.string), List.flatMap_map]
  exact h2

end

end Go.Proofs.YtdlnnkbigeiilaaGreat

/- How many cells, how many bytes the arguments' types have. No condition. -/
namespace Go.Proofs.YtdlnnkbigeiilaaGreat
open Go.ChangeShapes Go.WideShapes Go.ChangeAt Go.RowKit

theorem proof_cells : Tryz.prog.cellsOf 25 = 2 := by kernel_rfl
theorem either_cells : Tryz.prog.cellsOf 30 = 2 := by kernel_rfl
theorem str_cells : Tryz.prog.cellsOf 9 = 1 := by kernel_rfl
theorem strs_cells : Tryz.prog.cellsOf 23 = 1 := by kernel_rfl
theorem str_bytes : Tryz.prog.bytesOf 9 = 16 := by kernel_rfl
theorem strs_bytes : Tryz.prog.bytesOf 23 = 24 := by kernel_rfl
theorem reach16 {n : Nat} (h : n * 16 ≤ reachBytes) : n ≤ 8796093022206 := by unfold reachBytes at h; omega
theorem reach24 {n : Nat} (h : n * 24 ≤ reachBytes) : n ≤ 8796093022206 := by unfold reachBytes at h; omega

end Go.Proofs.YtdlnnkbigeiilaaGreat

/- Arguments of the laws of chapter 5 are opened: proofs, lists of lists, claims. Condition: they are as the row says. -/
namespace Go.Proofs.YtdlnnkbigeiilaaGreat
open Go.ChangeShapes Go.WideShapes Go.ChangeAt Go.RowKit

section
variable {H : Type} {enc : TypeId × Value → H} {w : World}
theorem open_capW {P : Program} {sp : Nat → Bool} {held : Bool} {t e : TypeId} {fuel n cap : Nat} {a : Option Addr} {y : DataW H × List MemPlace} (ht : P.underlying t = some (.slice e)) (h : DataW.trod enc P w 0 sp held fuel t [.slice a n cap] = some y) : n ≤ cap := by
  rcases DataW.trod_slice ht h with ⟨hcs, _⟩ | ⟨x, len, cap', elems, rest, n', _, hcs, hx, hb, hl, hm, hlen, hel, _, _⟩
  · simp only [List.cons.injEq, Value.slice.injEq, and_true] at hcs
    omega
  · simp only [List.cons.injEq, Value.slice.injEq, and_true] at hcs
    omega
theorem open_prf {sp : Nat → Bool} {held : Bool} (fuel : Nat) (cs : List Value) (y : DataW H × List MemPlace) (hW : Wt Tryz.prog 25 y.1) (h : DataW.trod enc Tryz.prog w 0 sp held fuel 25 cs = some y) :
    ∃ p : PrfA, cs = p.cells ∧ p.At w ∧ p.l.length ≤ 8796093022206 := by
  obtain ⟨h1, h2⟩ := open_cellsW Tryz.underlying25 (by kernel_rfl) proof_cells hW h
  obtain ⟨a, b, rfl⟩ := list2 h1
  obtain ⟨_, _, _, ha⟩ := h2 0 _ _ rfl rfl
  obtain ⟨_, _, hw, hb⟩ := h2 1 _ _ rfl rfl
  obtain ⟨s, rfl⟩ := open_str Tryz.underlying9 ha
  obtain ⟨al, cap, l, rfl, hn, hno, hs⟩ := open_strsW Tryz.underlying23 Tryz.underlying9 str_cells hw hb
  rw [str_bytes] at hn
  exact ⟨⟨s, al, cap, l⟩, rfl, ⟨hs, hno⟩, reach16 hn⟩
theorem open_rows {sp : Nat → Bool} {held : Bool} (fuel : Nat) (c : Value) (y : DataW H × List MemPlace) (hW : Wt Tryz.prog 28 y.1) (h : DataW.trod enc Tryz.prog w 0 sp held fuel 28 [c] = some y) :
    ∃ (a : Option Addr) (cap : Nat) (rs : List RowA), c = .slice a rs.length cap ∧ rs.length ≤ 8796093022206 ∧ RowsAt w a rs ∧ (∀ r ∈ rs, r.a = none → r.c = 0) ∧ (∀ r ∈ rs, r.l.length ≤ 8796093022206) := by
  obtain ⟨a, cap, rs, h1, h2, _, h4, h5⟩ := open_elsW (e := 23) RowA.cells (fun r => RowA.At w r ∧ (r.a = none → r.c = 0) ∧ r.l.length ≤ 8796093022206) Tryz.underlying28 strs_cells (by omega) hW (fun n l y' hl hW' hy => by
    match l, hl with
    | [c'], _ =>
      obtain ⟨al, cp, bs, rfl, hn, hno, hs⟩ := open_strsW Tryz.underlying23 Tryz.underlying9 str_cells hW' hy
      rw [str_bytes] at hn
      exact ⟨⟨al, cp, bs⟩, rfl, hs, hno, reach16 hn⟩) h
  rw [strs_bytes] at h2
  exact ⟨a, cap, rs, h1, reach24 h2, ⟨h4, fun r hr => (h5 r hr).1⟩, fun r hr => (h5 r hr).2.1, fun r hr => (h5 r hr).2.2⟩
theorem open_eith {sp : Nat → Bool} {held : Bool} (fuel : Nat) (cs : List Value) (y : DataW H × List MemPlace) (hW : Wt Tryz.prog 30 y.1) (h : DataW.trod enc Tryz.prog w 0 sp held fuel 30 cs = some y) :
    ∃ x : EithA, cs = [.slice x.ac x.cs.length x.cc, .slice x.ar x.rs.length x.cr] ∧ x.At w ∧ x.cs.length ≤ 8796093022206 ∧ ∀ r ∈ x.rs, r.l.length ≤ 8796093022206 := by
  obtain ⟨h1, h2⟩ := open_cellsW Tryz.underlying30 (by kernel_rfl) either_cells hW h
  obtain ⟨a, b, rfl⟩ := list2 h1
  obtain ⟨_, _, hwa, ha⟩ := h2 0 _ _ rfl rfl
  obtain ⟨_, _, hwb, hb⟩ := h2 1 _ _ rfl rfl
  obtain ⟨al, cap, l, rfl, hn, hno, hs⟩ := open_strsW Tryz.underlying23 Tryz.underlying9 str_cells hwa ha
  obtain ⟨ar, cr, rs, rfl, hn2, hr, hno2, hr2⟩ := open_rows _ _ _ hwb hb
  rw [str_bytes] at hn
  exact ⟨⟨al, cap, l, ar, cr, rs⟩, rfl, ⟨hs, hr, hno2⟩, reach16 hn, hr2⟩
end
theorem agg_of {cs : Array Value} {l : List Value} (h : cs.toList = l) : Value.agg cs = .agg l.toArray := by rw [← h]

theorem claim_cells : Tryz.prog.cellsOf 50 = 2 := by kernel_rfl
section
variable {H : Type} {enc : TypeId × Value → H} {w : World}
theorem open_claims {sp : Nat → Bool} {held : Bool} (fuel : Nat) (c : Value) (y : DataW H × List MemPlace) (hW : Wt Tryz.prog 22 y.1) (h : DataW.trod enc Tryz.prog w 0 sp held fuel 22 [c] = some y) :
    ∃ (a : Option Addr) (cap : Nat) (l : List ClaimA), c = .slice a l.length cap ∧ ClaimsAt w a l := by
  obtain ⟨a, cap, rs, h1, _, _, h4, h5⟩ := open_elsW (e := 50) ClaimA.cells (fun r => ClaimA.At w r) Tryz.underlying22 claim_cells (by omega) hW (fun n l y' hl hW' hy => by
    obtain ⟨g1, g2⟩ := open_cellsW Tryz.underlying50 (by kernel_rfl) claim_cells hW' hy
    obtain ⟨x1, x2, rfl⟩ := list2 g1
    obtain ⟨_, _, hwa, ha⟩ := g2 0 _ _ rfl rfl
    obtain ⟨_, _, hwb, hb⟩ := g2 1 _ _ rfl rfl
    obtain ⟨al, cp, bs, rfl, _, _, hs⟩ := open_strsW Tryz.underlying23 Tryz.underlying9 str_cells hwa ha
    obtain ⟨ai, ci, is, rfl, _, _, hi⟩ := open_strsW Tryz.underlying23 Tryz.underlying9 str_cells hwb hb
    exact ⟨⟨al, cp, bs, ai, ci, is⟩, rfl, hs, hi⟩) h
  exact ⟨a, cap, rs, h1, ⟨h4, fun c hc => h5 c hc⟩⟩
end

end Go.Proofs.YtdlnnkbigeiilaaGreat

/- Arguments of the laws: strings with their sizes, lists of strings with sizes, claims with the room of their lists. Condition: they are as the row says. -/
namespace Go.Proofs.YtdlnnkbigeiilaaGreat
open Go.ChangeShapes Go.WideShapes Go.ChangeAt Go.RowKit

theorem Wt.str {H : Type} {enc : TypeId × Value → H} {P : Program} {w : World} {sp : Nat → Bool} {held : Bool} {t : TypeId} {fuel : Nat} {s : ByteArray} {y : DataW H × List MemPlace} (ht : P.underlying t = some .string) (hW : Wt P t y.1) (h : DataW.trod enc P w 0 sp held fuel t [.string s] = some y) : s.size ≤ reachBytes := by
  obtain ⟨s', hs, hy, _⟩ := DataW.trod_string ht h
  simp only [List.cons.injEq, and_true, Value.string.injEq] at hs
  subst hs
  rw [hy] at hW
  exact hW s.data.toList.length (by simp [DataW.weights])
/-- A cell that is a slice of strings, each string's size with it. -/
theorem open_strsZ {H : Type} {enc : TypeId × Value → H} {P : Program} {w : World} {sp : Nat → Bool} {held : Bool} {t e : TypeId} {fuel : Nat} {c : Value} {y : DataW H × List MemPlace} (ht : P.underlying t = some (.slice e)) (he : P.underlying e = some .string) (hk : P.cellsOf e = 1) (hW : Wt P t y.1) (h : DataW.trod enc P w 0 sp held fuel t [c] = some y) :
    ∃ (a : Option Addr) (cap : Nat) (bs : List ByteArray), c = .slice a bs.length cap ∧ bs.length * P.bytesOf e ≤ reachBytes ∧ Sl w w.heap.size a (bs.map Value.string) ∧ ∀ x ∈ bs, x.size ≤ reachBytes := by
  obtain ⟨a, cap, xs, h1, hb, hno, h2, h3⟩ := open_elsW (fun s : ByteArray => [Value.string s]) (fun s => s.size ≤ reachBytes) ht hk (by omega) hW (fun n l y' hl hw hy => by
    match l, hl with
    | [c'], _ =>
      obtain ⟨s, rfl⟩ := open_str he hy
      exact ⟨s, rfl, Wt.str he hw hy⟩) h
  refine ⟨a, cap, xs, h1, hb, ?_, h3⟩
  rw [← List.flatMap_singleton' (xs.map Value.string), List.flatMap_map]
  exact h2
theorem askStr_cells : Tryz.prog.cellsOf 9 = 1 := by kernel_rfl
theorem askStr_bytes : Tryz.prog.bytesOf 9 = 16 := by kernel_rfl
theorem reach_lt : reachBytes < 140737488355328 := by decide


section
variable {H : Type} {enc : TypeId × Value → H} {w : World}
/-- Claims, and that each list has room for what it holds. -/
theorem open_claimsC {sp : Nat → Bool} {held : Bool} (fuel : Nat) (c : Value) (y : DataW H × List MemPlace) (hW : Wt Tryz.prog 22 y.1) (h : DataW.trod enc Tryz.prog w 0 sp held fuel 22 [c] = some y) :
    ∃ (a : Option Addr) (cap : Nat) (l : List ClaimA), c = .slice a l.length cap ∧ ClaimsAt w a l ∧ ∀ c ∈ l, c.bases.length ≤ c.cb ∧ c.images.length ≤ c.ci := by
  obtain ⟨a, cap, rs, h1, _, _, h4, h5⟩ := open_elsW (e := 50) ClaimA.cells (fun r => ClaimA.At w r ∧ r.bases.length ≤ r.cb ∧ r.images.length ≤ r.ci) Tryz.underlying22 claim_cells (by omega) hW (fun n l y' hl hW' hy => by
    obtain ⟨g1, g2⟩ := open_cellsW Tryz.underlying50 (by kernel_rfl) claim_cells hW' hy
    obtain ⟨x1, x2, rfl⟩ := list2 g1
    obtain ⟨_, _, hwa, ha⟩ := g2 0 _ _ rfl rfl
    obtain ⟨_, _, hwb, hb⟩ := g2 1 _ _ rfl rfl
    obtain ⟨al, cp, bs, rfl, _, _, hs⟩ := open_strsW Tryz.underlying23 Tryz.underlying9 str_cells hwa ha
    obtain ⟨ai, ci, is, rfl, _, _, hi⟩ := open_strsW Tryz.underlying23 Tryz.underlying9 str_cells hwb hb
    exact ⟨⟨al, cp, bs, ai, ci, is⟩, rfl, ⟨hs, hi⟩, open_capW Tryz.underlying23 ha, open_capW Tryz.underlying23 hb⟩) h
  exact ⟨a, cap, rs, h1, ⟨h4, fun c hc => (h5 c hc).1⟩, fun c hc => (h5 c hc).2⟩
end

end Go.Proofs.YtdlnnkbigeiilaaGreat

namespace Go.Proofs.YtdlnnkbigeiilaaGreat
open Go.ChangeShapes Go.WideShapes Go.ChangeAt Go.RowKit

set_option maxRecDepth 100000 in
set_option maxHeartbeats 4000000 in
theorem sigmaVerifies_any (k : Int) (label : ByteArray) (hlb : label.size < 140737488355328) (l : List ClaimA) (al : Option Addr) (cl : Nat) (ch : ByteArray) (xs : List ByteArray) (ax : Option Addr) (cx : Nat) (hn : xs.length ≤ 8796093022207) (hcap : ∀ c ∈ l, CapOk c) (w : World) (hC : ClaimsAt w al l) (hS : Sl w w.heap.size ax (xs.map Value.string)) :
    Calls Tryz.prog 3 #[.int .i64 k, .string label, .slice al l.length cl, .agg #[.string ch, .slice ax xs.length cx]] w fun e w' => e = .returned (.bool true) ∧ Below w.heap.size w w' := by
  have H1 := Lib.hid (fun w1 (hb : Below w.heap.size w w1) => sVerify_any k label hlb l al cl ch xs ax cx hn hcap w1 (hC.up hb) (hS.up hb))
  have H2 := Lib.hid (fun w1 (hb : Below w.heap.size w w1) => rVerify_any k label hlb l al cl ch xs ax cx hn w1 (hC.up hb) (hS.up hb))
  rw [rverK_eq] at H2
  generalize verK k label l ch xs = v at *
  generalize l.length = n at *
  generalize xs.length = m at *
  clear hC hS hn hcap hlb
  go_enter Tryz.func3, Tryz.ntmps3
  go_wp2_with fail
  obtain ⟨w1, hq1, hb9, hz9, Hbp⟩ := new1 w 25 [.string ch, .slice ax m cx]
  rw [hq1]
  clear hq1
  have HB := Lib.hid hb9
  have HZS := hz9
  clear hb9 hz9
  have bp_ := Hbp.out.c2
  have hl_bp := Hbp.out.lt
  refine wp_region_over (by kernel_rfl) (by kernel_rfl) ?_
  have hov_bp := fun (E : Over w1) o => E.cell (b := w.heap.size) o hl_bp
  repeat (go_big_quiet_step (first | (go_at_call 10; exact calls_over (H1.out _ (below_up HB.out (Over.h _)))) | (go_at_call 11; exact calls_over (H2.out _ (below_up HB.out (Over.h _))))))
  all_goals (try unfold elV limbV)
  repeat (go_big_quiet_step (first | (go_at_call 10; exact calls_over (H1.out _ (below_up HB.out (Over.h _)))) | (go_at_call 11; exact calls_over (H2.out _ (below_up HB.out (Over.h _))))))
  all_goals (try unfold elV limbV)
  repeat (go_big_quiet_step (first | (go_at_call 10; exact calls_over (H1.out _ (below_up HB.out (Over.h _)))) | (go_at_call 11; exact calls_over (H2.out _ (below_up HB.out (Over.h _))))))
  all_goals (try unfold ciphV)
  refine wpQuiet_nil ?_
  rintro _ ⟨E, rfl⟩
  clear hov_bp hl_bp
  clear bp_
  replace Hbp := Lib.hid (Hbp.out.up E.h)
  replace HB := hbu HB E.h
  replace HZS := sz HZS E.h.size
  obtain ⟨w2, hq9⟩ : ∃ W9 : World, E.w = W9 := ⟨_, rfl⟩
  rw [hq9] at Hbp HB HZS ⊢
  clear hq9 E
  have bp_ := Hbp.out.c2
  go_wp2_with fail
  go_ret
  exact ⟨by simp, HB.out⟩

set_option maxRecDepth 100000 in
theorem sigmaVerifies_calls {H : Type} (enc : TypeId × Value → H) (W : World) (base : Nat) {v0 v1 v2 v3 : Value} {d0 d1 d2 d3 : DataW H} {p0 p1 p2 p3 : List MemPlace}
    (h0 : DataW.Trod enc Tryz.prog W 0 (fun _ => true) true 3 v0 d0 p0) (h1 : DataW.Trod enc Tryz.prog W 0 (fun _ => true) true 9 v1 d1 p1) (h2 : DataW.Trod enc Tryz.prog W 0 (fun _ => true) true 22 v2 d2 p2) (h3 : DataW.Trod enc Tryz.prog W 0 (fun _ => true) true 25 v3 d3 p3)
    (k0 : Value.okWide Tryz.prog W .any base 3 v0) (k1 : Value.okWide Tryz.prog W .any base 9 v1) (k2 : Value.okWide Tryz.prog W .any base 22 v2) (k3 : Value.okWide Tryz.prog W .any base 25 v3)
    (_lt0 : ∀ x ∈ p0, x.block < W.heap.size) (_lt1 : ∀ x ∈ p1, x.block < W.heap.size) (_lt2 : ∀ x ∈ p2, x.block < W.heap.size) (_lt3 : ∀ x ∈ p3, x.block < W.heap.size)
    (hsz : (DataW.weightsEach Tryz.prog ([3, 9, 22, 25] ++ Rows.sigmaVerifiesSpec.plain.varTypes Tryz.prog) ([d0, d1, d2, d3] ++ [])).all (· ≤ reachBytes) = true) :
    Calls Tryz.prog 3 #[v0, v1, v2, v3] W fun e w' => e = .returned (.bool true) ∧ Below W.heap.size W w' := by
  obtain ⟨k, rfl, _, _, _⟩ := open_int Tryz.underlying3 k0 h0
  obtain ⟨b2, n2, m2, rfl⟩ := okWide_slice Tryz.underlying22 k2
  obtain ⟨c3, rfl, _⟩ := okWide_struct Tryz.underlying25 k3
  obtain ⟨f1, h1⟩ := h1
  obtain ⟨f2, h2⟩ := h2
  obtain ⟨f3, h3⟩ := h3
  obtain ⟨label, rfl, _⟩ := Go.ChangeMaps.open_string Tryz.underlying9 k1 ⟨f1, h1⟩
  obtain ⟨al, cl, l, e1, hC, hcap⟩ := open_claimsC f2 _ _ (Wt.arg hsz (j := 2) rfl rfl) h2
  obtain ⟨p, hp, hpa, hpl⟩ := open_prf f3 _ _ (Wt.arg hsz (j := 3) rfl rfl) h3
  rw [e1, agg_of (show c3.toList = _ from hp)]
  exact sigmaVerifies_any k label (Nat.lt_of_le_of_lt (Wt.str Tryz.underlying9 (Wt.arg hsz (j := 1) rfl rfl) h1) reach_lt) l al cl p.c p.l p.aa p.ca (by omega) hcap W hC hpa.s

set_option maxRecDepth 100000 in
theorem sigmaVerifies_lifted (os : Os) (started : os.Started) (H : Type) (enc : TypeId × Value → H) :
    ReturnsInHanded {} Tryz.checked os 3 .any (Rows.sigmaVerifiesSpec.pre6 enc Tryz.prog Tryz.f3 Rows.sigmaVerifiesRow.domain false) (Rows.sigmaVerifiesSpec.post enc Tryz.prog Tryz.f3 false true false false) := by
  refine returnsInHanded_of_change_sized (C := Tryz.checked) law_own started (by kernel_rfl) Tryz.func3
    (ChangeSpec.witness6 (enc := enc) (C := Tryz.checked) false ⟨#[], #[.int .i64 0, .string ⟨#[]⟩, .slice none 0 0, .agg #[.string ⟨#[]⟩, .slice none 0 0]], []⟩ 8 (by kernel_rfl) (by kernel_rfl) (by kernel_rfl) (by kernel_rfl)) ?_
  intro W base args ds gs before hval0 hW _ hsz0 _
  have hsz : (DataW.weightsEach Tryz.prog (Tryz.f3.params.toList ++ Rows.sigmaVerifiesSpec.plain.varTypes Tryz.prog) (ds ++ gs)).all (· ≤ reachBytes) = true := hsz0
  clear hsz0
  have hval : ∀ (j : Nat) t v, Tryz.f3.params[j]? = some t → args[j]? = some v → Value.okWide Tryz.prog W .any base t v := hval0
  have hW' := hW
  obtain ⟨p, q, hA0, hV, rfl, _, _⟩ := hW
  have hA : DataW.TrodAll enc Tryz.prog W 0 (fun _ => true) true Tryz.f3.params.toList args.toList ds p := hA0
  rw [Tryz.params3] at hA hval hsz
  obtain ⟨v0, vs0, d0, ds0, p0, q0, hargs, rfl, rfl, h0, r0⟩ := trodAll_cons hA
  obtain ⟨v1, vs1, d1, ds1, p1, q1, rfl, rfl, rfl, h1, r1⟩ := trodAll_cons r0
  obtain ⟨v2, vs2, d2, ds2, p2, q2, rfl, rfl, rfl, h2, r2⟩ := trodAll_cons r1
  obtain ⟨v3, vs3, d3, ds3, p3, q3, rfl, rfl, rfl, h3, r3⟩ := trodAll_cons r2
  obtain ⟨rfl, rfl, rfl⟩ := trodAll_nil r3
  obtain rfl : args = #[v0, v1, v2, v3] := by cases args; simp_all
  obtain ⟨rfl, rfl⟩ := trodVars_none hV
  have lt0 : ∀ x ∈ p0, x.block < W.heap.size := by obtain ⟨m, hm⟩ := h0; exact DataW.trod_lt m _ _ _ hm
  have lt1 : ∀ x ∈ p1, x.block < W.heap.size := by obtain ⟨m, hm⟩ := h1; exact DataW.trod_lt m _ _ _ hm
  have lt2 : ∀ x ∈ p2, x.block < W.heap.size := by obtain ⟨m, hm⟩ := h2; exact DataW.trod_lt m _ _ _ hm
  have lt3 : ∀ x ∈ p3, x.block < W.heap.size := by obtain ⟨m, hm⟩ := h3; exact DataW.trod_lt m _ _ _ hm
  clear hA0 hval0
  refine (sigmaVerifies_calls enc W base h0 h1 h2 h3 (hval 0 3 v0 rfl rfl) (hval 1 9 v1 rfl rfl) (hval 2 22 v2 rfl rfl) (hval 3 25 v3 rfl rfl) lt0 lt1 lt2 lt3 hsz).mono fun e W' ⟨he, bel⟩ => ?_
  subst he
  exact ⟨_, rfl, _, _, _, [], _, [], hW', trodAll_mk1 (shut_bool Tryz.underlying4 _), (trodAll_cons_mk (Below.trod law_laidOut (by kernel_rfl) (of_decide_eq_true (by kernel_rfl)) h0 bel lt0) (trodAll_cons_mk (Below.trod law_laidOut (by kernel_rfl) (of_decide_eq_true (by kernel_rfl)) h1 bel lt1) (trodAll_cons_mk (Below.trod law_laidOut (by kernel_rfl) (of_decide_eq_true (by kernel_rfl)) h2 bel lt2) (trodAll_cons_mk (Below.trod law_laidOut (by kernel_rfl) (of_decide_eq_true (by kernel_rfl)) h3 bel lt3) trodAll_mk0)))), rfl, bel.frame _, fun h => by cases h⟩

theorem sigmaVerifies_holds : Rows.SigmaVerifiesSaid :=
  OpenClaim.holds_of_wide 3 Tryz.f3 rfl rfl rfl rfl rfl rfl rfl ⟨rfl, rfl, rfl, rfl, rfl⟩ rfl rfl rfl rfl rfl (by kernel_rfl) Tryz.func3 (by kernel_rfl)
    (of_decide_eq_true (by kernel_rfl)) (by unfold Func.isWrapper; first | (rw [if_pos (by decide +kernel)]; kernel_rfl) | (rw [if_neg (by decide +kernel)]; exact ⟨rfl, rfl⟩))
    (fun os started H enc _ => sigmaVerifies_lifted os started H enc)
#print axioms sigmaVerifies_holds



end Go.Proofs.YtdlnnkbigeiilaaGreat
