/- Texts of this seat, one behind the other: what SigmaVerifies leans on. No condition beyond those that each names. -/
import Derived.Test.YtdlnnkbigeiilaaGreatZSigmaVerifies2
import Derived.Test.YtdlnnkbigeiilaaGreatRows
import Derived.ProofKit
import Derived.SizedLaws
import Derived.Lib.SmallJoins
import Derived.Deep.Slices
import Derived.Deep.Fields
import Derived.Shelf.Abstract
import Derived.Deep.LoopGhost

/- Slices that the call itself appends to, of elements of any size: one word for all of them. No condition beyond those that each fact names. -/
namespace Go.Proofs.YtdlnnkbigeiilaaGreat
open Go.RowKit

/-- A row of the call's own, in blocks from N on: n elements of so many cells, all cells xs. -/
def RowO (N : Nat) (w : World) (e : TypeId) (size : Nat) (v : Value) (n : Nat) (xs : List Value) : Prop := w.ownsRow N e size v n xs

section
variable {w w1 : World} {e : TypeId} {N size n m g c : Nat} {v : Value} {xs ys : List Value} {r : Option Nat}

theorem RowO.nil : RowO N w e size (.slice none 0 0) 0 [] := World.ownsRow_nil _ _ _ _
theorem RowO.grown (h : RowO N w e size v n xs) (hg : w.grownBy w1 r) (hne : ∀ q, v.ownBlock = some q → r ≠ some q) : RowO N w1 e size v n xs :=
  World.ownsRow.kept h hg (by cases h9 : v.ownBlock with
    | none => exact Or.inl rfl
    | some q => exact Or.inr (fun e => hne q h9 e.symm))
theorem RowO.up (h : RowO N w e size v n xs) (hb : Below w.heap.size w w1) : RowO N w1 e size v n xs := h.grown (below_grown hb) (fun q _ => by simp)
theorem RowO.lt (h : RowO N w e size v n xs) (q : Nat) (hq : v.ownBlock = some q) : N ≤ q ∧ q < w.heap.size := World.ownsRow.lt h q hq
theorem RowO.other (h : RowO N w e size v n xs) (hne : v.ownBlock ≠ some c) (i : Nat) (u : Value) : RowO N (w.setCell ⟨c, i, none⟩ u) e size v n xs := by
  refine h.grown (r := some c) ⟨rfl, rfl, rfl, by simp [World.setCell], fun k _ hk => ?_⟩ (fun q hq e => hne (by rw [hq, e]))
  exact Below.heap_setCell w ⟨c, i, none⟩ u k (by intro e; exact hk (by rw [e]))
theorem RowO.form (h : RowO N w e size v n xs) : ∃ a c, v = .slice a n c := let ⟨a, c, h1, _⟩ := own_form3 h; ⟨a, c, h1⟩
theorem RowO.len (h : RowO N w e size v n xs) : xs.length = n * size := h.1
theorem RowO.eq (h : RowO N w e size v n xs) (hx : xs = ys) (hn : n = m) : RowO N w e size v m ys := by subst hx; subst hn; exact h

/-- The cells of such a row, whatever an element's size. -/
theorem RowO.sl {a : Option Addr} {k : Nat} (h : RowO N w e size (.slice a k c) n xs) : Sl w w.heap.size a xs := by
  rcases h.2 with ⟨hv, h0⟩ | ⟨g, cap, cur, hv, hb, hg, hr⟩
  · have := h.1; subst h0; left; exact List.length_eq_zero_iff.1 (by simpa using this)
  · simp only [Value.slice.injEq] at hv
    obtain ⟨rfl, rfl, rfl⟩ := hv
    refine Or.inr ⟨g, 0, rfl, (Array.getElem?_eq_some_iff.1 hg).1, fun i u hu => ?_⟩
    have hi : i < k * size := by have := (List.getElem?_eq_some_iff.1 hu).1; rw [h.1] at this; exact this
    rw [Nat.zero_add, World.ownsRow.cellAt h i hi]; exact hu

theorem Bx.grown {t : TypeId} {b : Nat} {cs : List Value} (h : Bx w b t cs) (hg : w.grownBy w1 r) (hne : r ≠ some b) : Bx w1 b t cs := (hg.block b h.lt (fun e => hne e.symm)).trans h

/-- What the cells of one block were, they are. -/
theorem cell_of_block {b : Nat} (h : w1.heap[b]? = w.heap[b]?) (o : Nat) : w1.cell? ⟨b, o, none⟩ = w.cell? ⟨b, o, none⟩ := by
  simp only [World.cell?, h]
theorem GroupAt.grown {gb : Nat} {G : GP} (h : GroupAt w gb G) (hg : w.grownBy w1 r) (hne : r ≠ some gb) : GroupAt w1 gb G := by
  have hc := cell_of_block (hg.block gb h.lt (fun e => hne e.symm))
  have hl := hg.size
  exact ⟨Nat.lt_of_lt_of_le h.lt hl, by rw [hc]; exact h.kind, by rw [hc]; exact h.size, ⟨Nat.lt_of_lt_of_le h.p.lt hl, fun i x hx => by rw [hc]; exact h.p.cell i x hx⟩, ⟨Nat.lt_of_lt_of_le h.q.lt hl, fun i x hx => by rw [hc]; exact h.q.cell i x hx⟩⟩

theorem grown_set (w : World) (b i : Nat) (u : Value) : w.grownBy (w.setCell ⟨b, i, none⟩ u) (some b) :=
  ⟨rfl, rfl, rfl, by simp [World.setCell], fun k _ hk => Below.heap_setCell w ⟨b, i, none⟩ u k (by intro e; exact hk (by rw [e]))⟩
theorem slice_own (b o n c : Nat) : (Value.slice (some ⟨b, o, none⟩) n c).ownBlock = some b := rfl
end

/-- 'out = append(out, x)': x has just been laid into a block of its own. -/
theorem wpList_pushR {P : Program} (N : Nat) (w0 : World) (hN : N ≤ w0.heap.size) {ops : Array Oper} {rest : List Oper} {o : Oper} {a : Act} {Q : Exit → Act → World → Prop} (hgd : o.guard = none) (s x : Operand) (t : TypeId)
    (ho : o.op = .call { callee := .builtin .append, args := #[s, x], argTypes := #[t, t] })
    (e : TypeId) (i : TypeInfo) (z : Value) (size bytes : Nat) (ht : P.underlying t = some (.slice e)) (hi : P.info? e = some i) (hz : i.zero = some z)
    (hsize : i.size = size) (hby : i.bytes = bytes) (hzs : z.cells.size = size) (hsz : 0 < size)
    (v : Value) (n : Nat) (xs : List Value) (hs : a.eval s = v) (hown : RowO N w0 e size v n xs)
    (news : Array Value) (e2 : TypeId) (b : Nat) (hb : w0.heap.size = b) (hx : a.eval x = .slice (some ⟨b, 0, none⟩) 1 1) (hl : news.size = size) (h1 : ∀ u ∈ news.toList, u.oneCell' = true)
    (h63 : (n + 1) * bytes ≤ 140737488355328) (hn : n + 1 ≤ maxLen)
    (h : ∀ g cap w', RowO N w' e size (.slice (some ⟨g, 0, none⟩) (n + 1) cap) (n + 1) (xs ++ news.toList) → w0.grownBy w' v.ownBlock → wpList P ops Q rest (a.put o.dst (.slice (some ⟨g, 0, none⟩) (n + 1) cap)) w') :
    wpList P ops Q (o :: rest) a (w0.alloc (.cells news e2)) := by
  subst hb
  refine wpList_append_lies _ hgd s x t ho N e i z size bytes ht hi hz hsize hby hzs hsz v n xs hs (World.ownsRow.alloc hown _) ⟨w0.heap.size, 0, none⟩ 1 1 news.toList hx (by simpa using hl)
    (World.news_of_block (heap_alloc_new w0 _)) h1 (by omega) hn h63 (by simp; omega) _ rfl ?_
  intro g cap w' hown' hg _ _
  refine h g cap w' hown' ⟨hg.os, hg.tape, hg.output, ?_, ?_⟩
  · have := hg.size; simp at this; omega
  · intro k hk hne
    rw [hg.block k (by simp; omega) hne]
    exact Below.heap_alloc _ _ _ hk

/-- The same within the capacity: nothing is asked but that it fits. -/
theorem wpList_fitR {P : Program} (N : Nat) (w0 : World) {ops : Array Oper} {rest : List Oper} {o : Oper} {a : Act} {Q : Exit → Act → World → Prop} (hgd : o.guard = none) (s x : Operand) (t : TypeId)
    (ho : o.op = .call { callee := .builtin .append, args := #[s, x], argTypes := #[t, t] })
    (e : TypeId) (i : TypeInfo) (size : Nat) (ht : P.underlying t = some (.slice e)) (hi : P.info? e = some i) (hsize : i.size = size)
    (g n cap : Nat) (xs : List Value) (hs : a.eval s = .slice (some ⟨g, 0, none⟩) n cap) (hown : RowO N w0 e size (.slice (some ⟨g, 0, none⟩) n cap) n xs)
    (news : Array Value) (e2 : TypeId) (b : Nat) (hb : w0.heap.size = b) (hx : a.eval x = .slice (some ⟨b, 0, none⟩) 1 1) (hl : news.size = size) (h1 : ∀ u ∈ news.toList, u.oneCell' = true)
    (hfit : n + 1 ≤ cap)
    (h : ∀ w', RowO N w' e size (.slice (some ⟨g, 0, none⟩) (n + 1) cap) (n + 1) (xs ++ news.toList) → w0.grownBy w' (some g) → wpList P ops Q rest (a.put o.dst (.slice (some ⟨g, 0, none⟩) (n + 1) cap)) w') :
    wpList P ops Q (o :: rest) a (w0.alloc (.cells news e2)) := by
  subst hb
  refine wpList_append_fits _ hgd s x t ho N e i size ht hi hsize g n cap xs hs (World.ownsRow.alloc hown _) ⟨w0.heap.size, 0, none⟩ 1 1 news.toList hx (by simpa using hl)
    (World.news_of_block (heap_alloc_new w0 _)) h1 hfit ?_
  intro w' hown' hg
  refine h w' hown' ⟨hg.os, hg.tape, hg.output, ?_, ?_⟩
  · have := hg.size; simp at this; omega
  · intro k hk hne
    rw [hg.block k (by simp; omega) hne]
    exact Below.heap_alloc _ _ _ hk

/-- Slices of pieces, laid one behind the other. -/
theorem Sl.app_left {w : World} {B : Nat} {a : Option Addr} {xs ys : List Value} (h : Sl w B a (xs ++ ys)) : Sl w B a xs := by
  rcases h with h | ⟨b, off, rfl, hb, hc⟩
  · left; exact (List.append_eq_nil_iff.1 h).1
  · exact Or.inr ⟨b, off, rfl, hb, fun i v hv => hc i v (by rw [List.getElem?_append_left (List.getElem?_eq_some_iff.1 hv).1]; exact hv)⟩

/-- Flattened elements: the cells of the i-th. -/
theorem flat_at {α : Type} (f : α → List Value) (k : Nat) (hk : ∀ x, (f x).length = k) : ∀ (l : List α) (i j : Nat) (hi : i < l.length) (_ : j < k), (l.flatMap f)[i * k + j]? = (f l[i])[j]?
  | [], i, _, hi, _ => absurd hi (by simp)
  | x :: l, 0, j, _, hj => by
    rw [List.flatMap_cons, Nat.zero_mul, Nat.zero_add, List.getElem?_append_left (by rw [hk]; exact hj)]
    rfl
  | x :: l, i + 1, j, hi, hj => by
    rw [List.flatMap_cons, List.getElem?_append_right (by rw [hk, Nat.add_mul]; omega), hk, show (i + 1) * k + j - k = i * k + j by rw [Nat.add_mul]; omega]
    exact flat_at f k hk l i j (by simpa using hi) hj

theorem flat_len {α : Type} (f : α → List Value) (k : Nat) (hk : ∀ x, (f x).length = k) (l : List α) : (l.flatMap f).length = l.length * k := by
  induction l with
  | nil => simp
  | cons x l ih => rw [List.flatMap_cons, List.length_append, hk, ih, List.length_cons, Nat.add_mul]; omega

theorem flat_snoc {α : Type} (f : α → List Value) (l : List α) (i : Nat) (hi : i < l.length) : (l.take (i + 1)).flatMap f = (l.take i).flatMap f ++ f l[i] := by
  rw [List.take_succ_eq_append_getElem hi, List.flatMap_append]
  simp

/-- The cells of the i-th element of a slice. -/
theorem Sl.elem {w : World} {B : Nat} {a : Option Addr} {α : Type} {f : α → List Value} {k : Nat} {l : List α} (h : Sl w B a (l.flatMap f)) (hk : ∀ x, (f x).length = k) (h0 : 0 < k) (i : Nat) (hi : i < l.length) :
    ∃ b off, a = some ⟨b, off, none⟩ ∧ b < B ∧ ∀ j v, (f l[i])[j]? = some v → w.cell? ⟨b, off + i * k + j, none⟩ = some v := by
  rcases h with h | ⟨b, off, rfl, hb, hc⟩
  · have := flat_len f k hk l
    rw [h, List.length_nil] at this
    have : 0 < l.length * k := Nat.mul_pos (by omega) h0
    omega
  · exact ⟨b, off, rfl, hb, fun j v hv => by rw [Nat.add_assoc]; exact hc _ _ (by rw [flat_at f k hk l i j hi (by have := (List.getElem?_eq_some_iff.1 hv).1; rw [hk] at this; exact this)]; exact hv)⟩

end Go.Proofs.YtdlnnkbigeiilaaGreat

/- Boxes in short: their cells, new ones, stores into them. No condition beyond those that each fact names. -/
namespace Go.Proofs.YtdlnnkbigeiilaaGreat
open Go.RowKit

section
variable {W w0 : World} {b n : Nat} {t : TypeId} {cs cs' : List Value} {a0 a1 a2 a3 a4 a5 a6 a7 : Value}
theorem Bx.c1 (h : Bx W b t [a0]) : W.cell? ⟨b, 0, none⟩ = some a0 := h.cell (i := 0) rfl
theorem Bx.c2 (h : Bx W b t [a0, a1]) : W.cell? ⟨b, 0, none⟩ = some a0 ∧ W.cell? ⟨b, 1, none⟩ = some a1 := ⟨h.cell (i := 0) rfl, h.cell (i := 1) rfl⟩
theorem Bx.c3 (h : Bx W b t [a0, a1, a2]) : W.cell? ⟨b, 0, none⟩ = some a0 ∧ W.cell? ⟨b, 1, none⟩ = some a1 ∧ W.cell? ⟨b, 2, none⟩ = some a2 := ⟨h.cell (i := 0) rfl, h.cell (i := 1) rfl, h.cell (i := 2) rfl⟩
theorem Bx.c4 (h : Bx W b t [a0, a1, a2, a3]) : W.cell? ⟨b, 0, none⟩ = some a0 ∧ W.cell? ⟨b, 1, none⟩ = some a1 ∧ W.cell? ⟨b, 2, none⟩ = some a2 ∧ W.cell? ⟨b, 3, none⟩ = some a3 := ⟨h.cell (i := 0) rfl, h.cell (i := 1) rfl, h.cell (i := 2) rfl, h.cell (i := 3) rfl⟩
theorem Bx.c5 (h : Bx W b t [a0, a1, a2, a3, a4]) : W.cell? ⟨b, 0, none⟩ = some a0 ∧ W.cell? ⟨b, 1, none⟩ = some a1 ∧ W.cell? ⟨b, 2, none⟩ = some a2 ∧ W.cell? ⟨b, 3, none⟩ = some a3 ∧ W.cell? ⟨b, 4, none⟩ = some a4 := ⟨h.cell (i := 0) rfl, h.cell (i := 1) rfl, h.cell (i := 2) rfl, h.cell (i := 3) rfl, h.cell (i := 4) rfl⟩
theorem Bx.c6 (h : Bx W b t [a0, a1, a2, a3, a4, a5]) : W.cell? ⟨b, 0, none⟩ = some a0 ∧ W.cell? ⟨b, 1, none⟩ = some a1 ∧ W.cell? ⟨b, 2, none⟩ = some a2 ∧ W.cell? ⟨b, 3, none⟩ = some a3 ∧ W.cell? ⟨b, 4, none⟩ = some a4 ∧ W.cell? ⟨b, 5, none⟩ = some a5 := ⟨h.cell (i := 0) rfl, h.cell (i := 1) rfl, h.cell (i := 2) rfl, h.cell (i := 3) rfl, h.cell (i := 4) rfl, h.cell (i := 5) rfl⟩
theorem Bx.c7 (h : Bx W b t [a0, a1, a2, a3, a4, a5, a6]) : W.cell? ⟨b, 0, none⟩ = some a0 ∧ W.cell? ⟨b, 1, none⟩ = some a1 ∧ W.cell? ⟨b, 2, none⟩ = some a2 ∧ W.cell? ⟨b, 3, none⟩ = some a3 ∧ W.cell? ⟨b, 4, none⟩ = some a4 ∧ W.cell? ⟨b, 5, none⟩ = some a5 ∧ W.cell? ⟨b, 6, none⟩ = some a6 := ⟨h.cell (i := 0) rfl, h.cell (i := 1) rfl, h.cell (i := 2) rfl, h.cell (i := 3) rfl, h.cell (i := 4) rfl, h.cell (i := 5) rfl, h.cell (i := 6) rfl⟩
theorem Bx.c8 (h : Bx W b t [a0, a1, a2, a3, a4, a5, a6, a7]) : W.cell? ⟨b, 0, none⟩ = some a0 ∧ W.cell? ⟨b, 1, none⟩ = some a1 ∧ W.cell? ⟨b, 2, none⟩ = some a2 ∧ W.cell? ⟨b, 3, none⟩ = some a3 ∧ W.cell? ⟨b, 4, none⟩ = some a4 ∧ W.cell? ⟨b, 5, none⟩ = some a5 ∧ W.cell? ⟨b, 6, none⟩ = some a6 ∧ W.cell? ⟨b, 7, none⟩ = some a7 := ⟨h.cell (i := 0) rfl, h.cell (i := 1) rfl, h.cell (i := 2) rfl, h.cell (i := 3) rfl, h.cell (i := 4) rfl, h.cell (i := 5) rfl, h.cell (i := 6) rfl, h.cell (i := 7) rfl⟩
theorem sz {p q : Prop} (a : Hid p) (b : q) : Hid (p ∧ q) := Lib.hid ⟨a.out, b⟩
theorem sne {a b : Nat} (h : b ≠ a) : some a ≠ some b := fun e => h (Option.some.inj e).symm
theorem hbu {W w w1 : World} (h : Hid (Below W.heap.size W w)) (g : Below w.heap.size w w1) : Hid (Below W.heap.size W w1) := Lib.hid (below_up h.out g)
theorem hbg {W w w1 : World} {b : Nat} (h : Hid (Below W.heap.size W w)) (g : Hid (w.grownBy w1 (some b))) (hb : W.heap.size ≤ b) : Hid (Below W.heap.size W w1) := Lib.hid (Below.grown h.out g.out h.out.size (fun _ e => (Option.some.inj e) ▸ hb))
theorem new1 (w : World) (t0 : TypeId) (c0 : List Value) : ∃ W, w.alloc (Obj.cells c0.toArray t0) = W ∧ Below w.heap.size w W ∧ Hid (W.heap.size = w.heap.size + 1) ∧ Hid (Bx W w.heap.size t0 c0) := by
  refine ⟨_, rfl, ((Below.refl _ _).alloc (Nat.le_refl _) _), Lib.hid (by simp), ?_⟩
  · have h := (Bx.new w t0 c0 _ rfl)
    exact Lib.hid h
theorem new2 (w : World) (t0 : TypeId) (c0 : List Value) (t1 : TypeId) (c1 : List Value) : ∃ W, (w.alloc (Obj.cells c0.toArray t0)).alloc (Obj.cells c1.toArray t1) = W ∧ Below w.heap.size w W ∧ Hid (W.heap.size = w.heap.size + 2) ∧ Hid (Bx W w.heap.size t0 c0) ∧ Hid (Bx W (w.heap.size + 1) t1 c1) := by
  refine ⟨_, rfl, (((Below.refl _ _).alloc (Nat.le_refl _) _).alloc (by simp) _), Lib.hid (by simp), ?_, ?_⟩
  · have h := ((Bx.new w t0 c0 _ rfl).alloc (Obj.cells c1.toArray t1))
    exact Lib.hid h
  · have h := (Bx.new (w.alloc (Obj.cells c0.toArray t0)) t1 c1 _ rfl)
    rw [World.size_alloc] at h
    exact Lib.hid h
theorem new3 (w : World) (t0 : TypeId) (c0 : List Value) (t1 : TypeId) (c1 : List Value) (t2 : TypeId) (c2 : List Value) : ∃ W, ((w.alloc (Obj.cells c0.toArray t0)).alloc (Obj.cells c1.toArray t1)).alloc (Obj.cells c2.toArray t2) = W ∧ Below w.heap.size w W ∧ Hid (W.heap.size = w.heap.size + 3) ∧ Hid (Bx W w.heap.size t0 c0) ∧ Hid (Bx W (w.heap.size + 1) t1 c1) ∧ Hid (Bx W (w.heap.size + 2) t2 c2) := by
  refine ⟨_, rfl, ((((Below.refl _ _).alloc (Nat.le_refl _) _).alloc (by simp) _).alloc (by simp; omega) _), Lib.hid (by simp), ?_, ?_, ?_⟩
  · have h := (((Bx.new w t0 c0 _ rfl).alloc (Obj.cells c1.toArray t1)).alloc (Obj.cells c2.toArray t2))
    exact Lib.hid h
  · have h := ((Bx.new (w.alloc (Obj.cells c0.toArray t0)) t1 c1 _ rfl).alloc (Obj.cells c2.toArray t2))
    rw [World.size_alloc] at h
    exact Lib.hid h
  · have h := (Bx.new ((w.alloc (Obj.cells c0.toArray t0)).alloc (Obj.cells c1.toArray t1)) t2 c2 _ rfl)
    rw [World.size_alloc, World.size_alloc] at h
    exact Lib.hid h
theorem new4 (w : World) (t0 : TypeId) (c0 : List Value) (t1 : TypeId) (c1 : List Value) (t2 : TypeId) (c2 : List Value) (t3 : TypeId) (c3 : List Value) : ∃ W, (((w.alloc (Obj.cells c0.toArray t0)).alloc (Obj.cells c1.toArray t1)).alloc (Obj.cells c2.toArray t2)).alloc (Obj.cells c3.toArray t3) = W ∧ Below w.heap.size w W ∧ Hid (W.heap.size = w.heap.size + 4) ∧ Hid (Bx W w.heap.size t0 c0) ∧ Hid (Bx W (w.heap.size + 1) t1 c1) ∧ Hid (Bx W (w.heap.size + 2) t2 c2) ∧ Hid (Bx W (w.heap.size + 3) t3 c3) := by
  refine ⟨_, rfl, (((((Below.refl _ _).alloc (Nat.le_refl _) _).alloc (by simp) _).alloc (by simp; omega) _).alloc (by simp; omega) _), Lib.hid (by simp), ?_, ?_, ?_, ?_⟩
  · have h := ((((Bx.new w t0 c0 _ rfl).alloc (Obj.cells c1.toArray t1)).alloc (Obj.cells c2.toArray t2)).alloc (Obj.cells c3.toArray t3))
    exact Lib.hid h
  · have h := (((Bx.new (w.alloc (Obj.cells c0.toArray t0)) t1 c1 _ rfl).alloc (Obj.cells c2.toArray t2)).alloc (Obj.cells c3.toArray t3))
    rw [World.size_alloc] at h
    exact Lib.hid h
  · have h := ((Bx.new ((w.alloc (Obj.cells c0.toArray t0)).alloc (Obj.cells c1.toArray t1)) t2 c2 _ rfl).alloc (Obj.cells c3.toArray t3))
    rw [World.size_alloc, World.size_alloc] at h
    exact Lib.hid h
  · have h := (Bx.new (((w.alloc (Obj.cells c0.toArray t0)).alloc (Obj.cells c1.toArray t1)).alloc (Obj.cells c2.toArray t2)) t3 c3 _ rfl)
    rw [World.size_alloc, World.size_alloc, World.size_alloc] at h
    exact Lib.hid h
theorem put1 (h : Hid (Bx W b t cs)) (o0 : Nat) (v0 : Value) (cs' : List Value) (hc : (cs.set o0 v0) = cs') : ∃ W', (W.setCell ⟨b, o0, none⟩ v0) = W' ∧ Hid (W.grownBy W' (some b)) ∧ Hid (W'.heap.size = W.heap.size) ∧ Hid (Bx W' b t cs') :=
  ⟨_, rfl, Lib.hid (grown_set W b o0 v0), Lib.hid (by simp [World.setCell]), Lib.hid (hc ▸ (h.out.set o0 v0))⟩
theorem put2 (h : Hid (Bx W b t cs)) (o0 : Nat) (v0 : Value) (o1 : Nat) (v1 : Value) (cs' : List Value) (hc : ((cs.set o0 v0).set o1 v1) = cs') : ∃ W', ((W.setCell ⟨b, o0, none⟩ v0).setCell ⟨b, o1, none⟩ v1) = W' ∧ Hid (W.grownBy W' (some b)) ∧ Hid (W'.heap.size = W.heap.size) ∧ Hid (Bx W' b t cs') :=
  ⟨_, rfl, Lib.hid ((grown_set W b o0 v0).trans (grown_set (W.setCell ⟨b, o0, none⟩ v0) b o1 v1)), Lib.hid (by simp [World.setCell]), Lib.hid (hc ▸ ((h.out.set o0 v0).set o1 v1))⟩
theorem put3 (h : Hid (Bx W b t cs)) (o0 : Nat) (v0 : Value) (o1 : Nat) (v1 : Value) (o2 : Nat) (v2 : Value) (cs' : List Value) (hc : (((cs.set o0 v0).set o1 v1).set o2 v2) = cs') : ∃ W', (((W.setCell ⟨b, o0, none⟩ v0).setCell ⟨b, o1, none⟩ v1).setCell ⟨b, o2, none⟩ v2) = W' ∧ Hid (W.grownBy W' (some b)) ∧ Hid (W'.heap.size = W.heap.size) ∧ Hid (Bx W' b t cs') :=
  ⟨_, rfl, Lib.hid (((grown_set W b o0 v0).trans (grown_set (W.setCell ⟨b, o0, none⟩ v0) b o1 v1)).trans (grown_set ((W.setCell ⟨b, o0, none⟩ v0).setCell ⟨b, o1, none⟩ v1) b o2 v2)), Lib.hid (by simp [World.setCell]), Lib.hid (hc ▸ (((h.out.set o0 v0).set o1 v1).set o2 v2))⟩
theorem put4 (h : Hid (Bx W b t cs)) (o0 : Nat) (v0 : Value) (o1 : Nat) (v1 : Value) (o2 : Nat) (v2 : Value) (o3 : Nat) (v3 : Value) (cs' : List Value) (hc : ((((cs.set o0 v0).set o1 v1).set o2 v2).set o3 v3) = cs') : ∃ W', ((((W.setCell ⟨b, o0, none⟩ v0).setCell ⟨b, o1, none⟩ v1).setCell ⟨b, o2, none⟩ v2).setCell ⟨b, o3, none⟩ v3) = W' ∧ Hid (W.grownBy W' (some b)) ∧ Hid (W'.heap.size = W.heap.size) ∧ Hid (Bx W' b t cs') :=
  ⟨_, rfl, Lib.hid ((((grown_set W b o0 v0).trans (grown_set (W.setCell ⟨b, o0, none⟩ v0) b o1 v1)).trans (grown_set ((W.setCell ⟨b, o0, none⟩ v0).setCell ⟨b, o1, none⟩ v1) b o2 v2)).trans (grown_set (((W.setCell ⟨b, o0, none⟩ v0).setCell ⟨b, o1, none⟩ v1).setCell ⟨b, o2, none⟩ v2) b o3 v3)), Lib.hid (by simp [World.setCell]), Lib.hid (hc ▸ ((((h.out.set o0 v0).set o1 v1).set o2 v2).set o3 v3))⟩
theorem put5 (h : Hid (Bx W b t cs)) (o0 : Nat) (v0 : Value) (o1 : Nat) (v1 : Value) (o2 : Nat) (v2 : Value) (o3 : Nat) (v3 : Value) (o4 : Nat) (v4 : Value) (cs' : List Value) (hc : (((((cs.set o0 v0).set o1 v1).set o2 v2).set o3 v3).set o4 v4) = cs') : ∃ W', (((((W.setCell ⟨b, o0, none⟩ v0).setCell ⟨b, o1, none⟩ v1).setCell ⟨b, o2, none⟩ v2).setCell ⟨b, o3, none⟩ v3).setCell ⟨b, o4, none⟩ v4) = W' ∧ Hid (W.grownBy W' (some b)) ∧ Hid (W'.heap.size = W.heap.size) ∧ Hid (Bx W' b t cs') :=
  ⟨_, rfl, Lib.hid (((((grown_set W b o0 v0).trans (grown_set (W.setCell ⟨b, o0, none⟩ v0) b o1 v1)).trans (grown_set ((W.setCell ⟨b, o0, none⟩ v0).setCell ⟨b, o1, none⟩ v1) b o2 v2)).trans (grown_set (((W.setCell ⟨b, o0, none⟩ v0).setCell ⟨b, o1, none⟩ v1).setCell ⟨b, o2, none⟩ v2) b o3 v3)).trans (grown_set ((((W.setCell ⟨b, o0, none⟩ v0).setCell ⟨b, o1, none⟩ v1).setCell ⟨b, o2, none⟩ v2).setCell ⟨b, o3, none⟩ v3) b o4 v4)), Lib.hid (by simp [World.setCell]), Lib.hid (hc ▸ (((((h.out.set o0 v0).set o1 v1).set o2 v2).set o3 v3).set o4 v4))⟩
theorem put6 (h : Hid (Bx W b t cs)) (o0 : Nat) (v0 : Value) (o1 : Nat) (v1 : Value) (o2 : Nat) (v2 : Value) (o3 : Nat) (v3 : Value) (o4 : Nat) (v4 : Value) (o5 : Nat) (v5 : Value) (cs' : List Value) (hc : ((((((cs.set o0 v0).set o1 v1).set o2 v2).set o3 v3).set o4 v4).set o5 v5) = cs') : ∃ W', ((((((W.setCell ⟨b, o0, none⟩ v0).setCell ⟨b, o1, none⟩ v1).setCell ⟨b, o2, none⟩ v2).setCell ⟨b, o3, none⟩ v3).setCell ⟨b, o4, none⟩ v4).setCell ⟨b, o5, none⟩ v5) = W' ∧ Hid (W.grownBy W' (some b)) ∧ Hid (W'.heap.size = W.heap.size) ∧ Hid (Bx W' b t cs') :=
  ⟨_, rfl, Lib.hid ((((((grown_set W b o0 v0).trans (grown_set (W.setCell ⟨b, o0, none⟩ v0) b o1 v1)).trans (grown_set ((W.setCell ⟨b, o0, none⟩ v0).setCell ⟨b, o1, none⟩ v1) b o2 v2)).trans (grown_set (((W.setCell ⟨b, o0, none⟩ v0).setCell ⟨b, o1, none⟩ v1).setCell ⟨b, o2, none⟩ v2) b o3 v3)).trans (grown_set ((((W.setCell ⟨b, o0, none⟩ v0).setCell ⟨b, o1, none⟩ v1).setCell ⟨b, o2, none⟩ v2).setCell ⟨b, o3, none⟩ v3) b o4 v4)).trans (grown_set (((((W.setCell ⟨b, o0, none⟩ v0).setCell ⟨b, o1, none⟩ v1).setCell ⟨b, o2, none⟩ v2).setCell ⟨b, o3, none⟩ v3).setCell ⟨b, o4, none⟩ v4) b o5 v5)), Lib.hid (by simp [World.setCell]), Lib.hid (hc ▸ ((((((h.out.set o0 v0).set o1 v1).set o2 v2).set o3 v3).set o4 v4).set o5 v5))⟩
theorem put7 (h : Hid (Bx W b t cs)) (o0 : Nat) (v0 : Value) (o1 : Nat) (v1 : Value) (o2 : Nat) (v2 : Value) (o3 : Nat) (v3 : Value) (o4 : Nat) (v4 : Value) (o5 : Nat) (v5 : Value) (o6 : Nat) (v6 : Value) (cs' : List Value) (hc : (((((((cs.set o0 v0).set o1 v1).set o2 v2).set o3 v3).set o4 v4).set o5 v5).set o6 v6) = cs') : ∃ W', (((((((W.setCell ⟨b, o0, none⟩ v0).setCell ⟨b, o1, none⟩ v1).setCell ⟨b, o2, none⟩ v2).setCell ⟨b, o3, none⟩ v3).setCell ⟨b, o4, none⟩ v4).setCell ⟨b, o5, none⟩ v5).setCell ⟨b, o6, none⟩ v6) = W' ∧ Hid (W.grownBy W' (some b)) ∧ Hid (W'.heap.size = W.heap.size) ∧ Hid (Bx W' b t cs') :=
  ⟨_, rfl, Lib.hid (((((((grown_set W b o0 v0).trans (grown_set (W.setCell ⟨b, o0, none⟩ v0) b o1 v1)).trans (grown_set ((W.setCell ⟨b, o0, none⟩ v0).setCell ⟨b, o1, none⟩ v1) b o2 v2)).trans (grown_set (((W.setCell ⟨b, o0, none⟩ v0).setCell ⟨b, o1, none⟩ v1).setCell ⟨b, o2, none⟩ v2) b o3 v3)).trans (grown_set ((((W.setCell ⟨b, o0, none⟩ v0).setCell ⟨b, o1, none⟩ v1).setCell ⟨b, o2, none⟩ v2).setCell ⟨b, o3, none⟩ v3) b o4 v4)).trans (grown_set (((((W.setCell ⟨b, o0, none⟩ v0).setCell ⟨b, o1, none⟩ v1).setCell ⟨b, o2, none⟩ v2).setCell ⟨b, o3, none⟩ v3).setCell ⟨b, o4, none⟩ v4) b o5 v5)).trans (grown_set ((((((W.setCell ⟨b, o0, none⟩ v0).setCell ⟨b, o1, none⟩ v1).setCell ⟨b, o2, none⟩ v2).setCell ⟨b, o3, none⟩ v3).setCell ⟨b, o4, none⟩ v4).setCell ⟨b, o5, none⟩ v5) b o6 v6)), Lib.hid (by simp [World.setCell]), Lib.hid (hc ▸ (((((((h.out.set o0 v0).set o1 v1).set o2 v2).set o3 v3).set o4 v4).set o5 v5).set o6 v6))⟩
theorem put8 (h : Hid (Bx W b t cs)) (o0 : Nat) (v0 : Value) (o1 : Nat) (v1 : Value) (o2 : Nat) (v2 : Value) (o3 : Nat) (v3 : Value) (o4 : Nat) (v4 : Value) (o5 : Nat) (v5 : Value) (o6 : Nat) (v6 : Value) (o7 : Nat) (v7 : Value) (cs' : List Value) (hc : ((((((((cs.set o0 v0).set o1 v1).set o2 v2).set o3 v3).set o4 v4).set o5 v5).set o6 v6).set o7 v7) = cs') : ∃ W', ((((((((W.setCell ⟨b, o0, none⟩ v0).setCell ⟨b, o1, none⟩ v1).setCell ⟨b, o2, none⟩ v2).setCell ⟨b, o3, none⟩ v3).setCell ⟨b, o4, none⟩ v4).setCell ⟨b, o5, none⟩ v5).setCell ⟨b, o6, none⟩ v6).setCell ⟨b, o7, none⟩ v7) = W' ∧ Hid (W.grownBy W' (some b)) ∧ Hid (W'.heap.size = W.heap.size) ∧ Hid (Bx W' b t cs') :=
  ⟨_, rfl, Lib.hid ((((((((grown_set W b o0 v0).trans (grown_set (W.setCell ⟨b, o0, none⟩ v0) b o1 v1)).trans (grown_set ((W.setCell ⟨b, o0, none⟩ v0).setCell ⟨b, o1, none⟩ v1) b o2 v2)).trans (grown_set (((W.setCell ⟨b, o0, none⟩ v0).setCell ⟨b, o1, none⟩ v1).setCell ⟨b, o2, none⟩ v2) b o3 v3)).trans (grown_set ((((W.setCell ⟨b, o0, none⟩ v0).setCell ⟨b, o1, none⟩ v1).setCell ⟨b, o2, none⟩ v2).setCell ⟨b, o3, none⟩ v3) b o4 v4)).trans (grown_set (((((W.setCell ⟨b, o0, none⟩ v0).setCell ⟨b, o1, none⟩ v1).setCell ⟨b, o2, none⟩ v2).setCell ⟨b, o3, none⟩ v3).setCell ⟨b, o4, none⟩ v4) b o5 v5)).trans (grown_set ((((((W.setCell ⟨b, o0, none⟩ v0).setCell ⟨b, o1, none⟩ v1).setCell ⟨b, o2, none⟩ v2).setCell ⟨b, o3, none⟩ v3).setCell ⟨b, o4, none⟩ v4).setCell ⟨b, o5, none⟩ v5) b o6 v6)).trans (grown_set (((((((W.setCell ⟨b, o0, none⟩ v0).setCell ⟨b, o1, none⟩ v1).setCell ⟨b, o2, none⟩ v2).setCell ⟨b, o3, none⟩ v3).setCell ⟨b, o4, none⟩ v4).setCell ⟨b, o5, none⟩ v5).setCell ⟨b, o6, none⟩ v6) b o7 v7)), Lib.hid (by simp [World.setCell]), Lib.hid (hc ▸ ((((((((h.out.set o0 v0).set o1 v1).set o2 v2).set o3 v3).set o4 v4).set o5 v5).set o6 v6).set o7 v7))⟩
end

end Go.Proofs.YtdlnnkbigeiilaaGreat

/- What every law's row wants: two closed facts, and small words for opening arguments. -/
namespace Go.Proofs.YtdlnnkbigeiilaaGreat
open Go.ChangeShapes Go.WideShapes Go.ChangeAt Go.RowKit

theorem law_own : ownKnob Tryz.prog.godebug = none := by kernel_rfl
theorem law_laidOut : laidOutB Tryz.prog = true := by kernel_rfl

section
variable {H : Type} {enc : TypeId × Value → H} {P : Program} {w : World}

theorem add_plain (b off i : Nat) : (⟨b, off, none⟩ : Addr).add i = ⟨b, off + i, none⟩ := by unfold Addr.add; split <;> simp_all

/-- An argument that is a slice of integers: its numbers, and that it reads. -/
theorem open_Sl_ints {k : IntKind} {t e : TypeId} {a : Option Addr} {len cap : Nat} {d : DataW H} {p : List MemPlace} (ht : P.underlying t = some (.slice e)) (he : P.underlying e = some (.int k)) (hc : P.cellsOf e = 1)
    (h : DataW.Trod enc P w 0 (fun _ => true) true t (.slice a len cap) d p) (hlt : ∀ x ∈ p, x.block < w.heap.size) :
    ∃ xs : List Int, len = xs.length ∧ Sl w w.heap.size a (xs.map (Value.int k)) ∧ (∀ x ∈ xs, (Lit.int k x).wf = true) ∧ ((len = 0) ∨ ∃ zs : List Int, len ≤ zs.length ∧ d = .slice (lits k (zs.take len)) (lits k (zs.drop len))) := by
  obtain ⟨fuel, hf⟩ := h
  rcases open_ints ht he hc hf with ⟨hcs, _⟩ | ⟨x, l, c, zs, hcs, _, hl, hm, hz, hx, hcell, hwz⟩
  · simp [Value.cells] at hcs
    obtain ⟨rfl, rfl, rfl⟩ := hcs
    exact ⟨[], rfl, Or.inl rfl, by simp, Or.inl rfl⟩
  · simp [Value.cells] at hcs
    obtain ⟨rfl, rfl, rfl⟩ := hcs
    simp only [Prod.mk.injEq] at hx
    obtain ⟨hd, rfl⟩ := hx
    simp only [if_true] at hz
    by_cases h0 : len = 0
    · subst h0
      exact ⟨[], rfl, Or.inl rfl, by simp, Or.inl rfl⟩
    · obtain ⟨b, off, spot⟩ := x
      have hspot : spot = none := by simpa [Addr.add] using World.cell?_spot (hcell 0 (by omega))
      subst hspot
      have hbW : b < w.heap.size := hlt (.cell b off) (MemPlace.mem_row.2 ⟨0, by omega, by simp⟩)
      refine ⟨zs.take len, by rw [List.length_take]; omega, Or.inr ⟨b, off, rfl, hbW, ?_⟩, fun x hx => hwz x (List.mem_of_mem_take hx), Or.inr ⟨zs, by omega, hd⟩⟩
      intro i v hv
      have hi : i < len := by
        have := (List.getElem?_eq_some_iff.1 hv).1
        simp at this; omega
      have := hcell i (by omega)
      rw [add_plain] at this
      rw [this, ← hv]
      simp [List.getD, hi, List.getElem?_eq_getElem (show i < zs.length by omega)]

/-- An argument that is a slice of one-cell elements of any kind: its cells, each with its own reading. -/
theorem open_Sl_any {t e : TypeId} {a : Option Addr} {len cap : Nat} {d : DataW H} {p : List MemPlace} (ht : P.underlying t = some (.slice e)) (hc : P.cellsOf e = 1)
    (h : DataW.Trod enc P w 0 (fun _ => true) true t (.slice a len cap) d p) (hlt : ∀ x ∈ p, x.block < w.heap.size) :
    ∃ cs : List Value, len = cs.length ∧ Sl w w.heap.size a cs ∧
      ((len = 0) ∨ ∃ (n : Nat) (ys rest : List (DataW H × List MemPlace)), d = .slice (ys.map (·.1)) (rest.map (·.1)) ∧ ys.length = len ∧ (∀ y ∈ ys, ∀ q ∈ y.2, q ∈ p) ∧
        ∀ (i : Nat) (c : Value), cs[i]? = some c → ∃ y, ys[i]? = some y ∧ DataW.trod enc P w 0 (fun _ => true) true n e [c] = some y) := by
  obtain ⟨fuel, hf⟩ := h
  rcases DataW.trod_slice ht hf with ⟨hcs, _⟩ | ⟨x, l, c, elems, rest, n, _, hcs, hx, hb, hl, hm, hlen, hel, _, _⟩
  · simp [Value.cells] at hcs
    obtain ⟨rfl, rfl, rfl⟩ := hcs
    exact ⟨[], rfl, Or.inl rfl, Or.inl rfl⟩
  · simp [Value.cells] at hcs
    obtain ⟨rfl, rfl, rfl⟩ := hcs
    simp only [Prod.mk.injEq] at hx
    obtain ⟨hd, rfl⟩ := hx
    by_cases h0 : len = 0
    · subst h0
      exact ⟨[], rfl, Or.inl rfl, Or.inl rfl⟩
    have each : ∀ i, i < len → ∃ c y, w.cell? (x.add i) = some c ∧ elems[i]? = some y ∧ DataW.trod enc P w 0 (fun _ => true) true n e [c] = some y := by
      intro i hi
      have h1 := hel i hi
      rw [hc, Nat.mul_one] at h1
      have h2 : elems[i]? = some (elems[i]'(by omega)) := List.getElem?_eq_getElem (by omega)
      rw [h2, Option.bind_eq_some_iff] at h1
      obtain ⟨cs', hcs', hy⟩ := h1
      obtain ⟨h3, h4, h5⟩ := World.cells?_some hcs'
      obtain ⟨c, rfl⟩ : ∃ c, cs' = [c] := by
        match cs', h3 with
        | [c], _ => exact ⟨c, rfl⟩
      exact ⟨c, _, cell_of_cells?_one hcs', h2, hy⟩
    obtain ⟨b, off, spot⟩ := x
    obtain ⟨c0, y0, hc0, _⟩ := each 0 (by omega)
    have hspot : spot = none := by simpa [Addr.add] using World.cell?_spot hc0
    subst hspot
    have hbW : b < w.heap.size := hlt (.cell b off) (List.mem_append_left _ (MemPlace.mem_row.2 ⟨0, by rw [hc]; omega, by simp⟩))
    have hget : ∀ i c, ((List.range len).map (fun i => (w.cell? ⟨b, off + i, none⟩).getD (.bool false)))[i]? = some c → i < len ∧ w.cell? ⟨b, off + i, none⟩ = some c := by
      intro i c hi
      have hil : i < len := by
        have := (List.getElem?_eq_some_iff.1 hi).1
        simpa using this
      obtain ⟨c', y, h1, _⟩ := each i hil
      rw [add_plain] at h1
      simp [hil, h1] at hi
      exact ⟨hil, by rw [h1, hi]⟩
    refine ⟨(List.range len).map (fun i => (w.cell? ⟨b, off + i, none⟩).getD (.bool false)), by simp, Or.inr ⟨b, off, rfl, hbW, fun i v hv => (hget i v hv).2⟩, Or.inr ⟨n, elems, rest, hd, hlen, ?_, ?_⟩⟩
    · intro y hy q hq
      exact List.mem_append_right _ (List.mem_flatMap.2 ⟨y, List.mem_append_left _ hy, hq⟩)
    · intro i c hi
      obtain ⟨hil, hcell⟩ := hget i c hi
      obtain ⟨c', y, h1, h2, h3⟩ := each i hil
      rw [add_plain, hcell] at h1
      simp only [Option.some.injEq] at h1
      exact ⟨y, h2, by rw [h1]; exact h3⟩

/-- A list of values each of which is of one shape. -/
theorem list_shape {α : Type} (mk : α → Value) : ∀ cs : List Value, (∀ c ∈ cs, ∃ a, c = mk a) → ∃ xs : List α, cs = xs.map mk
  | [], _ => ⟨[], rfl⟩
  | c :: cs, h => by
    obtain ⟨a, rfl⟩ := h c (by simp)
    obtain ⟨xs, rfl⟩ := list_shape mk cs (fun c hc => h c (by simp [hc]))
    exact ⟨a :: xs, rfl⟩

/-- An argument that is a slice of booleans. -/
theorem open_Sl_bools {t e : TypeId} {a : Option Addr} {len cap : Nat} {d : DataW H} {p : List MemPlace} (ht : P.underlying t = some (.slice e)) (he : P.underlying e = some .bool) (hc : P.cellsOf e = 1)
    (h : DataW.Trod enc P w 0 (fun _ => true) true t (.slice a len cap) d p) (hlt : ∀ x ∈ p, x.block < w.heap.size) :
    ∃ bs : List Bool, len = bs.length ∧ Sl w w.heap.size a (bs.map Value.bool) := by
  obtain ⟨cs, hl, hs, hk⟩ := open_Sl_any ht hc h hlt
  obtain ⟨bs, rfl⟩ := list_shape Value.bool cs (by
    intro c hcm
    obtain ⟨i, hi⟩ := List.getElem?_of_mem hcm
    rcases hk with h0 | ⟨n, ys, rest, _, _, _, hy⟩
    · rw [h0] at hl
      have := List.eq_nil_of_length_eq_zero hl.symm
      subst this
      simp at hcm
    · obtain ⟨y, _, ht2⟩ := hy i c hi
      obtain ⟨b, hb, _⟩ := DataW.trod_bool he ht2
      exact ⟨b, by simpa using hb⟩)
  exact ⟨bs, by simpa using hl, hs⟩

/-- A struct of one-cell fields, by value: its cells, each with its own reading. -/
theorem open_fields {r : Reach} {b0 base : Nat} {spare : Nat → Bool} {held : Bool} {t : TypeId} {fs : Array Go.Field} {v : Value} {d : DataW H} {p : List MemPlace} (hs : P.underlying t = some (.struct fs)) (hone : Go.Deep.oneCellFields P fs = true) (hC : P.cellsOf t = fs.size)
    (hv : Value.okWide P w r b0 t v) (h : DataW.Trod enc P w base spare held t v d p) :
    ∃ (cs : Array Value) (ys : List (DataW H × List MemPlace)) (n : Nat), v = .agg cs ∧ cs.size = fs.size ∧ d = .agg (ys.map (·.1)) ∧ p = ys.flatMap (·.2) ∧ ys.length = fs.size ∧
      ∀ (j : Nat) (f : Go.Field), fs[j]? = some f → ∃ c y, cs[j]? = some c ∧ ys[j]? = some y ∧ DataW.trod enc P w base spare held n f.type [c] = some y := by
  obtain ⟨cs, rfl, hsz⟩ := okWide_struct hs hv
  obtain ⟨fuel, hf⟩ := h
  obtain ⟨ys, n, _, hx, hcl, hlen, hg⟩ := DataW.trod_struct hs hf
  simp only [Prod.mk.injEq] at hx
  refine ⟨cs, ys, n, rfl, by omega, hx.1, hx.2, hlen, fun j f hj => ?_⟩
  obtain ⟨ho, hk⟩ := Go.Deep.hone_of hone j f hj
  have hjf : j < fs.size := (Array.getElem?_eq_some_iff.1 hj).1
  have hjc : j < cs.size := by omega
  have h1 := hg j f hj
  have e : ((Value.agg cs).cells.toList.drop f.offset).take (P.cellsOf f.type) = [cs[j]] := by
    rw [ho, hk]
    show (cs.toList.drop j).take 1 = _
    rw [List.drop_eq_getElem_cons (by simpa using hjc)]
    simp
  rw [e] at h1
  have hys : ys[j]? = some (ys[j]'(by omega)) := List.getElem?_eq_getElem (by omega)
  exact ⟨cs[j], _, by simp [hjc], hys, h1.trans hys⟩

/-- A field that is a slice: its value's form. -/
theorem field_slice {base fuel : Nat} {spare : Nat → Bool} {held : Bool} {t e : TypeId} {c : Value} {y : DataW H × List MemPlace} (ht : P.underlying t = some (.slice e)) (h : DataW.trod enc P w base spare held fuel t [c] = some y) :
    ∃ a len cap, c = .slice a len cap := by
  rcases DataW.trod_slice ht h with ⟨hc, _⟩ | ⟨a, len, cap, _, _, _, _, hc, _⟩
  · simp at hc; exact ⟨_, _, _, hc⟩
  · simp at hc; exact ⟨_, _, _, hc⟩

theorem field_int {k : IntKind} {base fuel : Nat} {spare : Nat → Bool} {held : Bool} {t : TypeId} {c : Value} {y : DataW H × List MemPlace} (ht : P.underlying t = some (.int k)) (h : DataW.trod enc P w base spare held fuel t [c] = some y) :
    ∃ n, c = .int k n ∧ (Lit.int k n).wf = true := by
  obtain ⟨n, hc, _, hw⟩ := DataW.trod_int ht h
  simp at hc; exact ⟨n, hc, hw⟩

theorem array5 {cs : Array Value} (h : cs.size = 5) : ∃ a b c d e, cs = #[a, b, c, d, e] := by
  obtain ⟨l⟩ := cs
  match l, h with
  | [a, b, c, d, e], _ => exact ⟨a, b, c, d, e, rfl⟩

end
end Go.Proofs.YtdlnnkbigeiilaaGreat

/- Number theory from the ground: Fermat's little theorem, and two certificates of primality (Proth, Pocklington). No condition. -/
namespace Go.Proofs.YtdlnnkbigeiilaaGreat

def IsPrime (p : Nat) : Prop := 2 ≤ p ∧ ∀ d, d ∣ p → d = 1 ∨ d = p

theorem IsPrime.coprime_of_not_dvd {p a : Nat} (hp : IsPrime p) (h : ¬ p ∣ a) : Nat.Coprime p a := by
  rcases hp.2 (Nat.gcd p a) (Nat.gcd_dvd_left p a) with h1 | h1
  · exact h1
  · exact absurd (h1 ▸ Nat.gcd_dvd_right p a) h

theorem IsPrime.dvd_mul {p a b : Nat} (hp : IsPrime p) (h : p ∣ a * b) : p ∣ a ∨ p ∣ b := by
  by_cases ha : p ∣ a
  · exact Or.inl ha
  · exact Or.inr ((hp.coprime_of_not_dvd ha).dvd_of_dvd_mul_left h)

theorem exists_prime_dvd : ∀ n : Nat, 2 ≤ n → ∃ p, IsPrime p ∧ p ∣ n := by
  intro n
  induction n using Nat.strongRecOn with
  | ind n ih =>
    intro hn
    by_cases h : ∃ d, d ∣ n ∧ d ≠ 1 ∧ d ≠ n
    · obtain ⟨d, hd, h1, h2⟩ := h
      have hd0 : d ≠ 0 := by
        intro e; subst e; have := Nat.eq_zero_of_zero_dvd hd; omega
      have hle := Nat.le_of_dvd (by omega) hd
      obtain ⟨p, hp, hpd⟩ := ih d (by omega) (by omega)
      exact ⟨p, hp, Nat.dvd_trans hpd hd⟩
    · refine ⟨n, ⟨hn, fun d hd => ?_⟩, Nat.dvd_refl n⟩
      by_cases h1 : d = 1
      · exact Or.inl h1
      · by_cases h2 : d = n
        · exact Or.inr h2
        · exact absurd ⟨d, hd, h1, h2⟩ h

/-- The least factor is not above the root. -/
theorem exists_small_prime {n : Nat} (hn : 2 ≤ n) (h : ¬ IsPrime n) : ∃ p, IsPrime p ∧ p ∣ n ∧ p * p ≤ n := by
  have : ∃ d, d ∣ n ∧ d ≠ 1 ∧ d ≠ n := by
    apply Classical.byContradiction
    intro hc
    apply h
    refine ⟨hn, fun d hd => ?_⟩
    by_cases h1 : d = 1
    · exact Or.inl h1
    · by_cases h2 : d = n
      · exact Or.inr h2
      · exact absurd ⟨d, hd, h1, h2⟩ hc
  obtain ⟨d, ⟨c, hc⟩, h1, h2⟩ := this
  have hd0 : d ≠ 0 := by intro e; subst e; simp at hc; omega
  have hc0 : c ≠ 0 := by intro e; subst e; simp at hc; omega
  have hc1 : c ≠ 1 := by intro e; subst e; simp at hc; omega
  rcases Nat.le_total d c with hdc | hdc
  · obtain ⟨p, hp, hpd⟩ := exists_prime_dvd d (by omega)
    refine ⟨p, hp, Nat.dvd_trans hpd ⟨c, hc⟩, ?_⟩
    have := Nat.le_of_dvd (by omega) hpd
    calc p * p ≤ d * d := Nat.mul_le_mul this this
      _ ≤ d * c := Nat.mul_le_mul_left d hdc
      _ = n := hc.symm
  · obtain ⟨p, hp, hpd⟩ := exists_prime_dvd c (by omega)
    refine ⟨p, hp, Nat.dvd_trans hpd ⟨d, by rw [hc, Nat.mul_comm]⟩, ?_⟩
    have := Nat.le_of_dvd (by omega) hpd
    calc p * p ≤ c * c := Nat.mul_le_mul this this
      _ ≤ d * c := Nat.mul_le_mul_right c hdc
      _ = n := hc.symm

/-! Binomial numbers. -/
def choose : Nat → Nat → Nat
  | _, 0 => 1
  | 0, _ + 1 => 0
  | n + 1, k + 1 => choose n k + choose n (k + 1)

theorem choose_zero (n : Nat) : choose n 0 = 1 := by cases n <;> rfl
theorem choose_big : ∀ n k, n < k → choose n k = 0
  | 0, _ + 1, _ => rfl
  | n + 1, k + 1, h => by rw [choose, choose_big n k (by omega), choose_big n (k + 1) (by omega)]
theorem choose_self : ∀ n, choose n n = 1
  | 0 => rfl
  | n + 1 => by rw [choose, choose_self n, choose_big n (n + 1) (by omega)]
theorem choose_mul : ∀ n k, choose (n + 1) (k + 1) * (k + 1) = (n + 1) * choose n k
  | 0, 0 => rfl
  | 0, k + 1 => by simp [choose]
  | n + 1, 0 => by
    have h := choose_mul n 0
    have e : choose (n + 1 + 1) (0 + 1) = choose (n + 1) 0 + choose (n + 1) (0 + 1) := rfl
    rw [e]
    simp only [choose_zero, Nat.mul_one, Nat.zero_add] at h ⊢
    omega
  | n + 1, k + 1 => by
    have h1 := choose_mul n k
    have h2 := choose_mul n (k + 1)
    have e : choose (n + 1) (k + 1) = choose n k + choose n (k + 1) := rfl
    have e2 : choose (n + 1 + 1) (k + 1 + 1) = choose (n + 1) (k + 1) + choose (n + 1) (k + 1 + 1) := rfl
    rw [e2, Nat.add_mul, h2]
    have : choose (n + 1) (k + 1) * (k + 1 + 1) = choose (n + 1) (k + 1) * (k + 1) + choose (n + 1) (k + 1) := by
      rw [Nat.mul_add, Nat.mul_one]
    rw [this, h1]
    have : (n + 1 + 1) * choose (n + 1) (k + 1) = (n + 1) * choose (n + 1) (k + 1) + choose (n + 1) (k + 1) := by
      rw [Nat.add_mul (n + 1) 1, Nat.one_mul]
    rw [this, e, Nat.mul_add]
    omega

/-- The sum of the first m terms of (a + 1)^n. -/
def binom (a n : Nat) : Nat → Nat
  | 0 => 0
  | m + 1 => binom a n m + choose n m * a ^ m

theorem binom_succ (a n : Nat) : ∀ m, binom a (n + 1) (m + 1) = binom a n (m + 1) + a * binom a n m
  | 0 => by simp [binom, choose_zero]
  | m + 1 => by
    have ih := binom_succ a n m
    rw [binom, ih]
    have e : choose (n + 1) (m + 1) = choose n m + choose n (m + 1) := rfl
    rw [e]
    have e1 : binom a n (m + 1 + 1) = binom a n (m + 1) + choose n (m + 1) * a ^ (m + 1) := rfl
    have e2 : binom a n (m + 1) = binom a n m + choose n m * a ^ m := rfl
    rw [e1, Nat.add_mul]
    have e3 : a * binom a n (m + 1) = a * binom a n m + choose n m * a ^ (m + 1) := by
      rw [e2, Nat.mul_add, Nat.pow_succ]
      have : a * (choose n m * a ^ m) = choose n m * (a ^ m * a) := by
        rw [Nat.mul_left_comm, Nat.mul_comm a]
      rw [this]
    rw [e3]
    omega

theorem binom_all (a : Nat) : ∀ n, (a + 1) ^ n = binom a n (n + 1)
  | 0 => by simp [binom, choose]
  | n + 1 => by
    rw [binom_succ, Nat.pow_succ, binom_all a n]
    have e : binom a n (n + 1 + 1) = binom a n (n + 1) := by
      show binom a n (n + 1) + choose n (n + 1) * a ^ (n + 1) = _
      rw [choose_big n (n + 1) (by omega)]; simp
    rw [e, Nat.mul_add, Nat.mul_one, Nat.mul_comm, Nat.add_comm]

theorem prime_dvd_choose {p : Nat} (hp : IsPrime p) {k : Nat} (h0 : 0 < k) (h1 : k < p) : p ∣ choose p k := by
  obtain ⟨n, rfl⟩ : ∃ n, p = n + 1 := ⟨p - 1, by have := hp.1; omega⟩
  obtain ⟨j, rfl⟩ : ∃ j, k = j + 1 := ⟨k - 1, by omega⟩
  have h := choose_mul n j
  have : (n + 1) ∣ choose (n + 1) (j + 1) * (j + 1) := ⟨choose n j, h⟩
  rcases hp.dvd_mul this with h | h
  · exact h
  · have := Nat.le_of_dvd (by omega) h; omega

theorem binom_mod {p : Nat} (hp : IsPrime p) (a : Nat) : ∀ m, m < p → binom a p (m + 1) % p = 1 % p
  | 0, _ => by simp [binom, choose_zero]
  | m + 1, h => by
    rw [binom, Nat.add_mod, binom_mod hp a m (by omega)]
    have : choose p (m + 1) * a ^ (m + 1) % p = 0 :=
      Nat.mod_eq_zero_of_dvd (Nat.dvd_trans (prime_dvd_choose hp (by omega) h) ⟨_, rfl⟩)
    rw [this]; simp

theorem succ_pow_mod {p : Nat} (hp : IsPrime p) (a : Nat) : (a + 1) ^ p % p = (a ^ p + 1) % p := by
  have h2 := hp.1
  rw [binom_all]
  show (binom a p p + choose p p * a ^ p) % p = _
  have e := binom_mod hp a (p - 1) (by omega)
  rw [show p - 1 + 1 = p by omega] at e
  rw [choose_self, Nat.one_mul, Nat.add_mod, e, ← Nat.add_mod, Nat.add_comm]

theorem pow_prime_mod {p : Nat} (hp : IsPrime p) : ∀ a : Nat, a ^ p % p = a % p
  | 0 => by rw [Nat.zero_pow (by have := hp.1; omega)]
  | a + 1 => by rw [succ_pow_mod hp, Nat.add_mod, pow_prime_mod hp a, ← Nat.add_mod]

/-! Congruences. -/
theorem mod_eq_iff_dvd_sub {a b n : Nat} (h : b ≤ a) : a % n = b % n ↔ n ∣ a - b := by
  constructor
  · intro e
    exact Nat.dvd_of_mod_eq_zero (Nat.sub_mod_eq_zero_of_mod_eq e)
  · rintro ⟨c, hc⟩
    have : a = b + n * c := by omega
    rw [this, Nat.add_mul_mod_self_left]

theorem mul_cancel_mod {p a x y : Nat} (hp : Nat.Coprime p a) (h : a * x % p = a * y % p) : x % p = y % p := by
  rcases Nat.le_total y x with hxy | hxy
  · rw [mod_eq_iff_dvd_sub (Nat.mul_le_mul_left a hxy), ← Nat.mul_sub] at h
    exact (mod_eq_iff_dvd_sub hxy).2 (hp.dvd_of_dvd_mul_left h)
  · have h := h.symm
    rw [mod_eq_iff_dvd_sub (Nat.mul_le_mul_left a hxy), ← Nat.mul_sub] at h
    exact ((mod_eq_iff_dvd_sub hxy).2 (hp.dvd_of_dvd_mul_left h)).symm

/-- Fermat's little theorem. -/
theorem fermat {p a : Nat} (hp : IsPrime p) (h : ¬ p ∣ a) : a ^ (p - 1) % p = 1 % p := by
  have h2 := hp.1
  apply mul_cancel_mod (hp.coprime_of_not_dvd h)
  have e := pow_prime_mod hp a
  rw [show p = p - 1 + 1 by omega, Nat.pow_succ, Nat.mul_comm] at e
  rw [show p - 1 + 1 = p by omega] at e
  rw [e, Nat.mul_one]

theorem pow_mod_one {p a m : Nat} (h : a ^ m % p = 1 % p) (k : Nat) : a ^ (m * k) % p = 1 % p := by
  rw [Nat.pow_mul, Nat.pow_mod, h, ← Nat.pow_mod, Nat.one_pow]

/-- What is 1 to two powers is 1 to their greatest common measure. -/
theorem pow_gcd {p a : Nat} : ∀ m n : Nat, a ^ m % p = 1 % p → a ^ n % p = 1 % p → a ^ (Nat.gcd m n) % p = 1 % p := by
  intro m
  induction m using Nat.strongRecOn with
  | ind m ih =>
    intro n hm hn
    by_cases h0 : m = 0
    · subst h0; simpa using hn
    · rw [Nat.gcd_rec]
      refine ih (n % m) (Nat.mod_lt _ (by omega)) m ?_ hm
      have e : a ^ n = a ^ (m * (n / m)) * a ^ (n % m) := by rw [← Nat.pow_add, Nat.div_add_mod]
      rw [e] at hn
      rw [Nat.mul_mod, pow_mod_one hm, ← Nat.mul_mod, Nat.one_mul] at hn
      exact hn

theorem coprime_of_pow {p a m : Nat} (hp : IsPrime p) (hm : 0 < m) (h : a ^ m % p = 1 % p) : ¬ p ∣ a := by
  intro hd
  have : p ∣ a ^ m := Nat.dvd_trans hd (Nat.dvd_trans ⟨a ^ (m - 1), by rw [← Nat.pow_succ', show (m - 1).succ = m by omega]⟩ (Nat.dvd_refl _))
  rw [Nat.mod_eq_zero_of_dvd this, Nat.mod_eq_of_lt hp.1] at h
  omega

/-- Proth: h 2^k + 1, h odd or even, with 2^k above h, is a prime if some a to the half of what is one less is -1. -/
theorem proth {h k a : Nat} (hk : 0 < k) (hh : 0 < h) (hlt : h < 2 ^ k) (hw : (a ^ (h * 2 ^ (k - 1)) + 1) % (h * 2 ^ k + 1) = 0) : IsPrime (h * 2 ^ k + 1) := by
  have h2k : 2 ^ k = 2 * 2 ^ (k - 1) := by rw [← Nat.pow_succ', show (k - 1).succ = k by omega]
  have hpos : 0 < 2 ^ (k - 1) := Nat.pow_pos (by omega)
  apply Classical.byContradiction
  intro hn
  have hbig : 2 ≤ h * 2 ^ k + 1 := by have := Nat.mul_pos hh (show 0 < 2 ^ k by omega); omega
  obtain ⟨p, hp, hpd, hpp⟩ := exists_small_prime hbig hn
  have hdw : p ∣ a ^ (h * 2 ^ (k - 1)) + 1 := Nat.dvd_trans hpd (Nat.dvd_of_mod_eq_zero hw)
  have hp2 := hp.1
  -- p is odd
  have hodd : p ≠ 2 := by
    intro e; subst e
    obtain ⟨c, hc⟩ := hpd
    have : h * 2 ^ k = 2 * (h * 2 ^ (k - 1)) := by rw [h2k, Nat.mul_left_comm]
    omega
  -- a^(N-1) is 1
  have hx : a ^ (h * 2 ^ k) % p = 1 % p := by
    have e : a ^ (h * 2 ^ k) = a ^ (h * 2 ^ (k - 1)) * a ^ (h * 2 ^ (k - 1)) := by
      rw [← Nat.pow_add]; congr 1; rw [h2k, Nat.mul_left_comm]; omega
    rw [e]
    generalize a ^ (h * 2 ^ (k - 1)) = A at hdw
    have hA : A ≠ 0 := by
      intro e0; subst e0
      have := Nat.le_of_dvd (by omega) hdw; omega
    obtain ⟨B, rfl⟩ : ∃ B, A = B + 1 := ⟨A - 1, by omega⟩
    have e2 : (B + 1) * (B + 1) = (B + 1 + 1) * B + 1 := by
      rw [Nat.add_mul, Nat.mul_add, Nat.add_mul (B + 1), Nat.add_mul B]; omega
    rw [e2, mod_eq_iff_dvd_sub (by omega)]
    exact Nat.dvd_trans hdw ⟨B, by omega⟩
  have hcop := coprime_of_pow hp (Nat.mul_pos hh (by omega : 0 < 2 ^ k)) hx
  have hfer := fermat hp hcop
  have hg := pow_gcd _ _ hx hfer
  -- if 2^k does not divide the gcd, the half power is 1 as well
  have hdiv : 2 ^ k ∣ Nat.gcd (h * 2 ^ k) (p - 1) := by
    apply Classical.byContradiction
    intro hnd
    have hgd : Nat.gcd (h * 2 ^ k) (p - 1) ∣ h * 2 ^ k := Nat.gcd_dvd_left _ _
    generalize Nat.gcd (h * 2 ^ k) (p - 1) = g at hg hnd hgd
    have key : ∀ k, 0 < k → ∀ g, g ∣ h * 2 ^ k → ¬ 2 ^ k ∣ g → g ∣ h * 2 ^ (k - 1) := by
      intro k
      induction k with
      | zero => intro h0; omega
      | succ k ihk =>
        intro _ g hgd hnd
        show g ∣ h * 2 ^ k
        by_cases hev : 2 ∣ g
        · obtain ⟨g', rfl⟩ := hev
          rw [Nat.pow_succ] at hgd hnd
          have h1 : g' ∣ h * 2 ^ k := by
            obtain ⟨c, hc⟩ := hgd
            refine ⟨c, ?_⟩
            have : 2 * (h * 2 ^ k) = 2 * (g' * c) := by
              rw [← Nat.mul_assoc 2 g' c, ← hc, Nat.mul_comm 2, Nat.mul_assoc]
            omega
          have h2 : ¬ 2 ^ k ∣ g' := by
            rintro ⟨c, rfl⟩
            exact hnd ⟨c, by rw [Nat.mul_comm (2 ^ k) 2, Nat.mul_assoc]⟩
          by_cases hk0 : k = 0
          · subst hk0; exact absurd (Nat.one_dvd g') h2
          · have := ihk (by omega) g' h1 h2
            rw [show k = k - 1 + 1 by omega, Nat.pow_succ, ← Nat.mul_assoc, Nat.mul_comm 2]
            exact Nat.mul_dvd_mul_right this 2
        · have hc2 : Nat.Coprime g 2 := by
            have p2 : IsPrime 2 := ⟨by omega, fun d hd => by have := Nat.le_of_dvd (by omega) hd; have : d ≠ 0 := (by intro e; subst e; simp at hd); omega⟩
            exact (p2.coprime_of_not_dvd hev).symm
          rw [Nat.pow_succ, ← Nat.mul_assoc] at hgd
          exact hc2.dvd_of_dvd_mul_right hgd
    obtain ⟨c, hc⟩ := key k hk g hgd hnd
    have h1 := pow_mod_one hg c
    rw [← hc] at h1
    have : (a ^ (h * 2 ^ (k - 1)) + 1) % p = 2 % p := by rw [Nat.add_mod, h1, ← Nat.add_mod]
    rw [Nat.mod_eq_zero_of_dvd hdw] at this
    rw [Nat.mod_eq_of_lt (by omega)] at this
    omega
  have h1 : 2 ^ k ∣ p - 1 := Nat.dvd_trans hdiv (Nat.gcd_dvd_right _ _)
  have h2 := Nat.le_of_dvd (by omega) h1
  have h3 : (2 ^ k + 1) * (2 ^ k + 1) ≤ p * p := Nat.mul_le_mul (by omega) (by omega)
  have h4 : h * 2 ^ k ≤ 2 ^ k * 2 ^ k := Nat.mul_le_mul_right _ (by omega)
  have h5 : (2 ^ k + 1) * (2 ^ k + 1) = 2 ^ k * 2 ^ k + 2 ^ k + 2 ^ k + 1 := by rw [Nat.add_mul, Nat.mul_add]; omega
  omega

/-- Pocklington for 2 q + 1, q a prime. -/
theorem pocklington {q a : Nat} (hq : IsPrime q) (ha : 2 ≤ a) (h1 : a ^ (2 * q) % (2 * q + 1) = 1) (h2 : Nat.gcd (a ^ 2 - 1) (2 * q + 1) = 1) : IsPrime (2 * q + 1) := by
  have hq2 := hq.1
  apply Classical.byContradiction
  intro hn
  obtain ⟨p, hp, hpd, hpp⟩ := exists_small_prime (by omega) hn
  have hp2 := hp.1
  have hx : a ^ (2 * q) % p = 1 % p := by
    rw [← Nat.mod_mod_of_dvd _ hpd, h1]
  have hcop := coprime_of_pow hp (by omega) hx
  have hfer := fermat hp hcop
  have hg := pow_gcd _ _ hx hfer
  have hdiv : q ∣ Nat.gcd (2 * q) (p - 1) := by
    apply Classical.byContradiction
    intro hnd
    have hgd : Nat.gcd (2 * q) (p - 1) ∣ 2 * q := Nat.gcd_dvd_left _ _
    generalize Nat.gcd (2 * q) (p - 1) = g at hg hnd hgd
    have : g ∣ 2 := (hq.coprime_of_not_dvd hnd).symm.dvd_of_dvd_mul_right hgd
    obtain ⟨c, hc⟩ := this
    have h3 := pow_mod_one hg c
    rw [← hc] at h3
    have hpos : 1 ≤ a ^ 2 := Nat.pow_pos (by omega)
    have h4 := (mod_eq_iff_dvd_sub hpos).1 h3
    have h5 := Nat.dvd_gcd h4 hpd
    rw [h2] at h5
    have := Nat.le_of_dvd (by omega) h5
    omega
  have h3 : q ∣ p - 1 := Nat.dvd_trans hdiv (Nat.gcd_dvd_right _ _)
  have h4 := Nat.le_of_dvd (by omega) h3
  have h5 : (q + 1) * (q + 1) ≤ p * p := Nat.mul_le_mul (by omega) (by omega)
  have h6 : (q + 1) * (q + 1) = q * q + q + q + 1 := by rw [Nat.add_mul, Nat.mul_add]; omega
  have : 2 * q ≤ q * q := Nat.mul_le_mul_right q hq2
  omega

/-! Powers modulo a number, by squares: what the kernel reckons. -/
def powMod (a m : Nat) : Nat → Nat → Nat
  | 0, _ => 1 % m
  | f + 1, n => if n = 0 then 1 % m else
      let h := powMod a m f (n / 2)
      if n % 2 = 0 then h * h % m else h * h % m * a % m

theorem powMod_eq (a m : Nat) : ∀ f n, n < 2 ^ f → powMod a m f n = a ^ n % m
  | 0, n, h => by
    have : n = 0 := by simpa using h
    subst this; rfl
  | f + 1, n, h => by
    rw [powMod]
    by_cases h0 : n = 0
    · subst h0; simp
    · rw [if_neg h0]
      have ih := powMod_eq a m f (n / 2) (by rw [Nat.pow_succ] at h; omega)
      simp only [ih]
      have hn : n = n / 2 * 2 + n % 2 := by omega
      have e : (a ^ (n / 2) % m) * (a ^ (n / 2) % m) % m = a ^ (n / 2 * 2) % m := by
        rw [← Nat.mul_mod, ← Nat.pow_add]; congr 2; omega
      rw [e]
      by_cases h2 : n % 2 = 0
      · rw [if_pos h2]; congr 2; omega
      · rw [if_neg h2, Nat.mod_mul_mod, ← Nat.pow_succ]; congr 2; omega


theorem proth_by {h k a : Nat} (f : Nat) (hk : 0 < k) (hh : 0 < h) (hlt : h < 2 ^ k) (hf : h * 2 ^ (k - 1) < 2 ^ f)
    (hw : (powMod a (h * 2 ^ k + 1) f (h * 2 ^ (k - 1)) + 1) % (h * 2 ^ k + 1) = 0) : IsPrime (h * 2 ^ k + 1) := by
  rw [powMod_eq _ _ _ _ hf] at hw
  refine proth (a := a) hk hh hlt ?_
  rw [Nat.add_mod, Nat.mod_mod, ← Nat.add_mod] at hw
  exact hw

theorem pocklington_by {q a : Nat} (f : Nat) (hq : IsPrime q) (ha : 2 ≤ a) (hf : 2 * q < 2 ^ f) (h1 : powMod a (2 * q + 1) f (2 * q) = 1)
    (h2 : Nat.gcd (a ^ 2 - 1) (2 * q + 1) = 1) : IsPrime (2 * q + 1) := by
  rw [powMod_eq _ _ _ _ hf] at h1
  exact pocklington hq ha h1 h2

/-! The moduli of the three groups. -/
theorem prime_q1 : IsPrime 641 := proth_by (h := 5) (k := 7) (a := 3) 10 (by decide +kernel) (by decide +kernel) (by decide +kernel) (by decide +kernel) (by decide +kernel)
theorem prime_p1 : IsPrime 1283 := pocklington_by (q := 641) (a := 2) 11 prime_q1 (by decide +kernel) (by decide +kernel) (by decide +kernel) (by decide +kernel)
theorem prime_q2 : IsPrime 576465431670292481 := proth_by (h := 268437635) (k := 31) (a := 3) 60 (by decide +kernel) (by decide +kernel) (by decide +kernel) (by decide +kernel) (by decide +kernel)
theorem prime_p2 : IsPrime 1152930863340584963 := pocklington_by (q := 576465431670292481) (a := 2) 61 prime_q2 (by decide +kernel) (by decide +kernel) (by decide +kernel) (by decide +kernel)
theorem prime_q3 : IsPrime 7237005577332262213973186563042995786902308146886443998308627866733439352833 := proth_by (h := 42535295865117307932921825928971035519) (k := 127) (a := 3) 253 (by decide +kernel) (by decide +kernel) (by decide +kernel) (by decide +kernel) (by decide +kernel)
theorem prime_p3 : IsPrime 14474011154664524427946373126085991573804616293772887996617255733466878705667 := pocklington_by (q := 7237005577332262213973186563042995786902308146886443998308627866733439352833) (a := 2) 254 prime_q3 (by decide +kernel) (by decide +kernel) (by decide +kernel) (by decide +kernel)

end Go.Proofs.YtdlnnkbigeiilaaGreat

/- The document's numbers, written down; compared. No condition. -/
namespace Go.Proofs.YtdlnnkbigeiilaaGreat
open Go.RowKit

theorem byteAt_nought (n i : Nat) (h : dl n ≤ i / 2) : byteAt n i = 0 := by
  rw [byte_dg, dg_nought n _ h]
  simp
theorem textL_skip (n size k : Nat) (h : byteAt n k = 0) : textL n size k = textL n size (k + 1) := by
  unfold textL
  refine List.map_congr_left fun p _ => ?_
  by_cases h1 : size - 1 - p < k
  · rw [if_pos h1, if_pos (by omega)]
  · rw [if_neg h1]
    by_cases h2 : size - 1 - p < k + 1
    · rw [if_pos h2, show size - 1 - p = k by omega, h]; rfl
    · rw [if_neg h2]


set_option maxHeartbeats 1000000 in
theorem refText_any (n size : Nat) (an : Option Addr) (cn : Nat) (hln : dl n ≤ 1048576) (hs : size ≤ 1024) (w : World) (hA : NumAt w an n) :
    Calls Tryz.prog 49 #[.slice an (dl n) cn, .int .i64 (size : Int)] w fun e w' => e = .returned (.string (textS n size)) ∧ Below w.heap.size w w' := by
  obtain ⟨i0, hi, hz0, hz1, hz2⟩ := info_parts infoByte
  have HA := Lib.hid hA
  clear hA
  go_enter Tryz.func49, Tryz.ntmps49
  go_wp2_with (at_make; refine wpList_make_full _ rfl _ _ 150 rfl 0 5 i0 (.int .u8 0) 1 Tryz.underlying150 hi hz0 hz1 _ _ _ _ size rfl rfl ?c1 ?c2 ?c3 ?c4 ?c5 ?_)
  case c1 => rfl
  case c2 => rfl
  case c3 => rw [hz2]; omega
  case c4 => unfold maxLen; omega
  case c5 => omega
  intro w1 hown hgrow
  have HB1 : Hid (Below w.heap.size w w1) := (Below.refl _ _).grown hgrow (Nat.le_refl _) (by simp)
  have HO1 : Hid (w1.ownsRow 0 5 1 (.slice (some ⟨w.heap.size, 0, none⟩) size size) size ((textL n size 0).map (Value.int .u8))) := by
    have h := hown
    show World.ownsRow _ _ _ _ _ _ _
    rw [textL_zero]
    rw [bytes_made] at h
    exact h
  clear hown hgrow hi hz0 hz1 hz2
  go_wp2_with fail
  go_loopw [6, 7] (fun x _ wr => ∃ k : Nat, k ≤ size ∧ x = .int .i64 k ∧ Hid (wr.ownsRow 0 5 1 (.slice (some ⟨w.heap.size, 0, none⟩) size size) size ((textL n size k).map (Value.int .u8))) ∧ Hid (Below w.heap.size w wr)) (fun x _ _ => size - (intOf x).toNat)
  case atStart => exact ⟨0, Nat.zero_le _, rfl, HO1.out, HB1.out⟩
  case round =>
    clear HO1 HB1
    obtain ⟨k, hk, rfl, HO, HN⟩ := hrel
    by_cases hkl : k < size
    · have hlen : size - 1 - k < ((textL n size k).map (Value.int .u8)).length := by simp [textL_length]; omega
      have hc := HO.out.cellAt (size - 1 - k) (by omega)
      rw [List.getElem?_eq_getElem hlen] at hc
      have hf := HO.out.frozenAt (size - 1 - k)
      generalize ((textL n size k).map (Value.int .u8))[size - 1 - k] = old at hc
      have hidx : (size : Int) - 1 - (k : Int) = ((size - 1 - k : Nat) : Int) := by omega
      clear hlen
      have hk2 : (k : Int) / 2 = ((k / 2 : Nat) : Int) := by omega
      by_cases hd : k / 2 < dl n
      · obtain ⟨b1, o1, rfl, hb1, hcell1⟩ := HA.out.all (by omega)
        have hx1 : wr.cell? ⟨b1, o1 + k / 2, none⟩ = some (.int .i64 (dg DD n (k / 2) : Int)) := by rw [HN.out.cell (p := ⟨b1, o1 + k / 2, none⟩) hb1]; exact hcell1 _ hd
        have hdb : dg DD n (k / 2) < 65536 := dg_lt (B := DD) (by decide) n _
        have hby := byte_dg n k
        clear hcell1 hk2
        generalize dg DD n (k / 2) = d at *
        have hk1 : k % 2 = 0 ∨ k % 2 = 1 := by omega
        rcases hk1 with hk1 | hk1
        · have hodd : ((k : Int) % 2 == 1) = false := by simp; omega
          have hbyte : (d : Int) % 256 = (byteAt n k : Int) := by rw [hby, hk1]; simp
          have HK1 := Lib.hid hk1
          clear hby hk1
          have hst := (HO.out.stored (size - 1 - k) (.int .u8 (byteAt n k : Int))).1
          rw [← List.map_set, textL_set _ _ _ hkl] at hst
          have HS := Lib.hid hst
          have HSB := Lib.hid (HN.out.setCell (p := ⟨w.heap.size, size - 1 - k, none⟩) (Nat.le_refl _) (.int .u8 (byteAt n k : Int)))
          clear hst
          go_wp2_with fail
          go_roundw
          case rel => exact ⟨k + 1, by omega, by go_num, HS.out, HSB.out⟩
          case measure => simp [intOf]; omega
        · have hodd : ((k : Int) % 2 == 1) = true := by simp; omega
          have hbyte : (d : Int) / 256 % 256 = (byteAt n k : Int) := by rw [hby, hk1]; simp
          have HK1 := Lib.hid hk1
          clear hby hk1
          have hst := (HO.out.stored (size - 1 - k) (.int .u8 (byteAt n k : Int))).1
          rw [← List.map_set, textL_set _ _ _ hkl] at hst
          have HS := Lib.hid hst
          have HSB := Lib.hid (HN.out.setCell (p := ⟨w.heap.size, size - 1 - k, none⟩) (Nat.le_refl _) (.int .u8 (byteAt n k : Int)))
          clear hst
          go_wp2_with fail
          go_roundw
          case rel => exact ⟨k + 1, by omega, by go_num, HS.out, HSB.out⟩
          case measure => simp [intOf]; omega
      · have h0 := byteAt_nought n k (by omega)
        have HSK := Lib.hid (textL_skip n size k h0)
        clear h0 hk2
        go_wp2_with fail
        go_roundw
        case rel => exact ⟨k + 1, by omega, by go_num, by rw [← HSK.out]; exact HO.out, HN.out⟩
        case measure => simp [intOf]; omega
    · have hks : k = size := by omega
      subst hks
      have hcv := run_convert_bytes_arg (P := Tryz.prog) wr 150 5 Tryz.underlying150 Tryz.underlying5 w.heap.size 0 k k (textL n k k) (textL_length _ _ _) (fun i hi => by
        have h := HO.out.cellAt i (by omega)
        rw [Nat.zero_add, h, List.getElem?_map, List.getElem?_eq_getElem (by rw [textL_length]; exact hi)]
        simp [List.getD, List.getElem?_eq_getElem (show i < (textL n k k).length by rw [textL_length]; exact hi)]) 9 Tryz.underlying9
      go_wp2_with fail
      go_ret
      exact ⟨rfl, HN.out⟩

end Go.Proofs.YtdlnnkbigeiilaaGreat

/- The package group: with. No condition. -/
namespace Go.Proofs.YtdlnnkbigeiilaaGreat
open Go.RowKit

/-- What a face of the group answers: a value and an errno. -/
def Ans (v : Value) (er : Int) (w : World) (e : Ending) (w' : World) : Prop := e = .returned (.tuple #[v, .int .i64 er]) ∧ Below w.heap.size w w'


set_option maxRecDepth 100000 in
set_option maxHeartbeats 1000000 in
theorem withS_none (k : Int) (hk : ¬ (1 ≤ k ∧ k ≤ 3)) (fv : Value) (w : World) : Calls Tryz.prog 161 #[.int .i64 k, fv] w (Ans (.string ⟨#[]⟩) 1 w) := by
  go_enter Tryz.func161, Tryz.ntmps161
  go_wp2_with fail
  refine (of_none k hk w).mono ?_
  rintro e w1 ⟨rfl, rfl⟩
  go_wp2_with fail
  go_ret2
  exact ⟨rfl, Below.refl _ _⟩

set_option maxRecDepth 100000 in
set_option maxHeartbeats 1000000 in
theorem withS_some (k : Nat) (h1 : 1 ≤ k) (h3 : k ≤ 3) (f : FuncId) (caps : Array Value) (v : Value) (er : Int) (hent : Enters Tryz.prog f) (w : World)
    (hcall : ∀ w1, Below w.heap.size w w1 → GroupAt w1 w.heap.size (grp k) → Calls Tryz.prog f (#[.pointer (some ⟨w.heap.size, 0, none⟩)] ++ caps) w1 (Ans v er w1)) :
    Calls Tryz.prog 161 #[.int .i64 (k : Int), .func (.func f) #[] caps] w (Ans v er w) := by
  have HC := Lib.hid hcall
  clear hcall
  have hcf : ∀ (args : Array Value) (w : World), (callFunc f args).run Tryz.prog w = .ok (.enter f args) w := hent
  clear hent
  go_enter Tryz.func161, Tryz.ntmps161
  go_wp2_with fail
  refine (of_some k h1 h3 w).mono ?_
  rintro e w1 ⟨rfl, hg, hb⟩
  have HG := Lib.hid hg
  have HB := Lib.hid hb
  clear hg hb
  go_wp2_with fail
  refine (HC.out w1 HB.out HG.out).mono ?_
  rintro e w2 ⟨rfl, hb2⟩
  have HB2 := Lib.hid (below_up HB.out hb2)
  clear hb2
  go_wp2_with fail
  go_ret2
  exact ⟨rfl, HB2.out⟩

end Go.Proofs.YtdlnnkbigeiilaaGreat

/- The package group: what a kind has. No condition. -/
namespace Go.Proofs.YtdlnnkbigeiilaaGreat
open Go.RowKit

set_option maxRecDepth 100000 in
set_option maxHeartbeats 1000000 in
theorem fixed1_any (gb b : Nat) (f : FuncId) (caps : Array Value) (s : ByteArray) (hent : Enters Tryz.prog f) (w : World) (hc : w.cell? ⟨b, 0, none⟩ = some (.func (.func f) #[] caps))
    (hcall : Calls Tryz.prog f (#[.pointer (some ⟨gb, 0, none⟩)] ++ caps) w fun e w' => e = .returned (.string s) ∧ Below w.heap.size w w') :
    Calls Tryz.prog 162 #[.pointer (some ⟨gb, 0, none⟩), .pointer (some ⟨b, 0, none⟩)] w (Ans (.string s) 0 w) := by
  have HC := Lib.hid hcall
  clear hcall
  have hcf : ∀ (args : Array Value) (w : World), (callFunc f args).run Tryz.prog w = .ok (.enter f args) w := hent
  clear hent
  go_enter Tryz.func162, Tryz.ntmps162
  go_wp2_with fail
  refine HC.out.mono ?_
  rintro e w2 ⟨rfl, hb2⟩
  have HB2 := Lib.hid hb2
  clear hb2 hc
  go_wp2_with fail
  go_ret2
  exact ⟨rfl, HB2.out⟩

set_option maxRecDepth 100000 in
set_option maxHeartbeats 1000000 in
theorem fixed_some (k : Nat) (h1 : 1 ≤ k) (h3 : k ≤ 3) (f : FuncId) (caps : Array Value) (s : ByteArray) (hent : Enters Tryz.prog f) (w : World)
    (hcall : ∀ w1 gb, Below w.heap.size w w1 → GroupAt w1 gb (grp k) → Calls Tryz.prog f (#[.pointer (some ⟨gb, 0, none⟩)] ++ caps) w1 fun e w' => e = .returned (.string s) ∧ Below w1.heap.size w1 w') :
    Calls Tryz.prog 135 #[.int .i64 (k : Int), .func (.func f) #[] caps] w (Ans (.string s) 0 w) := by
  have HC := Lib.hid hcall
  have HE := Lib.hid hent
  clear hcall hent
  go_enter Tryz.func135, Tryz.ntmps135
  go_wp2_with fail
  have hb0 : Below w.heap.size w (w.alloc (.cells #[.func (.func f) #[] caps] 182)) := (Below.refl _ _).alloc (Nat.le_refl _) _
  have hz0 : Bx (w.alloc (.cells #[.func (.func f) #[] caps] 182)) w.heap.size 182 [.func (.func f) #[] caps] := Bx.new w _ _ _ rfl
  obtain ⟨W0, hW0⟩ : ∃ W9 : World, (w.alloc (.cells #[.func (.func f) #[] caps] 182)) = W9 := ⟨_, rfl⟩
  rw [hW0] at hb0 hz0 ⊢
  have HB0 := Lib.hid hb0
  have HZ0 := Lib.hid hz0
  clear hW0 hb0 hz0
  refine (withS_some k h1 h3 162 #[.pointer (some ⟨w.heap.size, 0, none⟩)] (.string s) 0 (enters_of Tryz.func162 (by kernel_rfl) rfl) W0 (fun w1 hb hg => ?_)).mono ?_
  · exact fixed1_any _ _ f caps s HE.out w1 ((HZ0.out.up hb).cell (i := 0) rfl) (HC.out w1 _ (below_up HB0.out hb) hg)
  · rintro e w2 ⟨rfl, hb2⟩
    have HB2 := Lib.hid (below_up HB0.out hb2)
    clear hb2
    go_wp2_with fail
    go_ret2
    exact ⟨rfl, HB2.out⟩

set_option maxRecDepth 100000 in
set_option maxHeartbeats 1000000 in
theorem fixed_none (k : Int) (hk : ¬ (1 ≤ k ∧ k ≤ 3)) (f : FuncId) (caps : Array Value) (w : World) : Calls Tryz.prog 135 #[.int .i64 k, .func (.func f) #[] caps] w (Ans (.string ⟨#[]⟩) 1 w) := by
  go_enter Tryz.func135, Tryz.ntmps135
  go_wp2_with fail
  refine (withS_none k hk _ _).mono ?_
  rintro e w1 ⟨rfl, hb⟩
  have HB := Lib.hid (((Below.refl w.heap.size w).alloc (Nat.le_refl _) _).trans (hb.mono (by simp)))
  clear hb
  go_wp2_with fail
  go_ret2
  exact ⟨rfl, HB.out⟩


set_option maxHeartbeats 1000000 in
theorem base1_any (G : GP) (ok : G.Ok) (gb : Nat) (w : World) (hG : GroupAt w gb G) : Calls Tryz.prog 136 #[.pointer (some ⟨gb, 0, none⟩)] w fun e w' => e = .returned (.string (textS (lowN G 2) G.size)) ∧ Below w.heap.size w w' := by
  have HG := Lib.hid hG
  have OK := Lib.hid ok
  clear hG ok
  go_enter Tryz.func136, Tryz.ntmps136
  go_wp2_with fail
  refine (gBase_any G OK.out gb w HG.out).mono ?_
  rintro e w1 ⟨rfl, hb1⟩
  have HB1 := Lib.hid hb1
  clear hb1
  go_wp2_with fail
  refine (gText_any G OK.out gb 2 w1 (HG.out.up HB1.out)).mono ?_
  rintro e w2 ⟨rfl, hb2⟩
  have HB2 := Lib.hid (below_up HB1.out hb2)
  clear hb2
  go_wp2_with fail
  go_ret
  exact ⟨rfl, HB2.out⟩

theorem low2 (k : Nat) (h1 : 1 ≤ k) (h3 : k ≤ 3) : lowN (grp k) 2 = 2 := by
  obtain rfl | rfl | rfl : k = 1 ∨ k = 2 ∨ k = 3 := by omega
  all_goals decide

set_option maxRecDepth 100000 in
set_option maxHeartbeats 1000000 in
theorem Base_some (k : Nat) (h1 : 1 ≤ k) (h3 : k ≤ 3) (w : World) : Calls Tryz.prog 86 #[.int .i64 (k : Int)] w (Ans (.string (textS 2 (grp k).size)) 0 w) := by
  go_enter Tryz.func86, Tryz.ntmps86
  go_wp2_with fail
  refine (fixed_some k h1 h3 136 #[] ((textS 2 (grp k).size)) (enters_of Tryz.func136 (by kernel_rfl) rfl) w (fun w1 gb hb hg => by rw [← low2 k h1 h3]; exact base1_any (grp k) (grp_ok k h1 h3) gb w1 hg)).mono ?_
  rintro e w2 ⟨rfl, hb2⟩
  have HB2 := Lib.hid hb2
  clear hb2
  go_wp2_with fail
  go_ret2
  exact ⟨rfl, HB2.out⟩

set_option maxRecDepth 100000 in
set_option maxHeartbeats 1000000 in
theorem Base_none (k : Int) (hk : ¬ (1 ≤ k ∧ k ≤ 3)) (w : World) : Calls Tryz.prog 86 #[.int .i64 k] w (Ans (.string ⟨#[]⟩) 1 w) := by
  go_enter Tryz.func86, Tryz.ntmps86
  go_wp2_with fail
  refine (fixed_none k hk _ _ w).mono ?_
  rintro e w2 ⟨rfl, hb2⟩
  have HB2 := Lib.hid hb2
  clear hb2
  go_wp2_with fail
  go_ret2
  exact ⟨rfl, HB2.out⟩

def Ans3 (a b c : Int) (w : World) (e : Ending) (w' : World) : Prop := e = .returned (.tuple #[.int .i64 a, .int .i64 b, .int .i64 c]) ∧ Below w.heap.size w w'

end Go.Proofs.YtdlnnkbigeiilaaGreat

/- The document's numbers: compared, and read. No condition. -/
namespace Go.Proofs.YtdlnnkbigeiilaaGreat
open Go.RowKit

set_option maxHeartbeats 1000000 in
theorem refCompare_len (a b : Nat) (aa ab : Option Addr) (ca cb : Nat) (h : dl a ≠ dl b) (w : World) :
    Calls Tryz.prog 63 #[.slice aa (dl a) ca, .slice ab (dl b) cb] w fun e w' => e = .returned (.int .i64 (cmpI a b)) ∧ Below w.heap.size w w' := by
  rcases Nat.lt_or_ge (dl a) (dl b) with h1 | h1
  · have HC : Hid (cmpI a b = -1) := by show _ = _; unfold cmpI; rw [if_pos (lt_of_dl a b h1)]
    have hne : ((dl a : Int) != (dl b : Int)) = true := by simp; omega
    clear h
    go_enter Tryz.func63, Tryz.ntmps63
    go_wp2_with fail
    go_ret
    exact ⟨ret_int HC.out.symm, Below.refl _ _⟩
  · have h2 : dl b < dl a := by omega
    have h3 := lt_of_dl b a h2
    have HC : Hid (cmpI a b = 1) := by show _ = _; unfold cmpI; rw [if_neg (by omega), if_pos h3]
    have hne : ((dl a : Int) != (dl b : Int)) = true := by simp; omega
    have h4 : ¬ dl a < dl b := by omega
    clear h h1 h3
    go_enter Tryz.func63, Tryz.ntmps63
    go_wp2_with fail
    go_ret
    exact ⟨ret_int HC.out.symm, Below.refl _ _⟩

set_option maxHeartbeats 1000000 in
theorem refCompare_same (a b : Nat) (aa ab : Option Addr) (ca cb L : Nat) (ha : dl a = L) (hb : dl b = L) (hL : L ≤ 1048576) (w : World) (hA : NumAt w aa a) (hB : NumAt w ab b) :
    Calls Tryz.prog 63 #[.slice aa L ca, .slice ab L cb] w fun e w' => e = .returned (.int .i64 (cmpI a b)) ∧ Below w.heap.size w w' := by
  have HDA := Lib.hid ha
  have HDB := Lib.hid hb
  have HA := Lib.hid hA
  have HB := Lib.hid hB
  clear ha hb hA hB
  have hne : ((L : Int) != (L : Int)) = false := by simp
  go_enter Tryz.func63, Tryz.ntmps63
  go_wp2_with fail
  go_loopw [5] (fun x wr => ∃ j : Nat, j ≤ L ∧ x = .int .i64 ((j : Int) - 1) ∧ Hid (a / DD ^ j = b / DD ^ j) ∧ Hid (Below w.heap.size w wr)) (fun x _ => (intOf x + 1).toNat)
  case atStart => exact ⟨L, Nat.le_refl _, rfl, by
    show _ = _
    have h1 := lt_dl a
    have h2 := lt_dl b
    rw [HDA.out] at h1
    rw [HDB.out] at h2
    rw [Nat.div_eq_of_lt h1, Nat.div_eq_of_lt h2], Below.refl _ _⟩
  case round =>
    obtain ⟨j, hj, hi, HE, HN⟩ := hrel
    rcases Nat.eq_zero_or_pos j with rfl | hjp
    · subst hi
      go_wp2_with fail
      go_ret
      have h := HE.out
      rw [Nat.pow_zero, Nat.div_one, Nat.div_one] at h
      exact ⟨ret_int (by unfold cmpI; rw [if_neg (by omega), if_neg (by omega)]), HN.out⟩
    · obtain ⟨p, rfl⟩ : ∃ p, j = p + 1 := ⟨j - 1, by omega⟩
      have ei : ((p + 1 : Nat) : Int) - 1 = (p : Int) := by omega
      rw [ei] at hi
      subst hi
      clear ei hjp
      obtain ⟨b1, o1, rfl, hb1, hcell1⟩ := HA.out.all (by rw [HDA.out]; omega)
      obtain ⟨b2, o2, rfl, hb2, hcell2⟩ := HB.out.all (by rw [HDB.out]; omega)
      have hx1 : wr.cell? ⟨b1, o1 + p, none⟩ = some (.int .i64 (dg DD a p : Int)) := by rw [HN.out.cell (p := ⟨b1, o1 + p, none⟩) hb1]; exact hcell1 _ (by rw [HDA.out]; omega)
      have hx2 : wr.cell? ⟨b2, o2 + p, none⟩ = some (.int .i64 (dg DD b p : Int)) := by rw [HN.out.cell (p := ⟨b2, o2 + p, none⟩) hb2]; exact hcell2 _ (by rw [HDB.out]; omega)
      clear hcell1 hcell2
      rcases Nat.lt_trichotomy (dg DD a p) (dg DD b p) with hd | hd | hd
      · have hcmp : Hid (a < b) := lt_of_dg a b p HE.out hd
        have hd1 : ((dg DD a p : Int) != (dg DD b p : Int)) = true := by simp; omega
        go_wp2_with fail
        go_quiet (fail)
        go_wp2_with fail
        go_quiet (fail)
        go_wp2_with fail
        go_ret
        exact ⟨ret_int (by unfold cmpI; rw [if_pos hcmp.out]), by first | exact below_drewN (below_drewN HN.out _) _ | exact below_drewN HN.out _⟩
      · have HE2 := Lib.hid (same_of_dg a b p HE.out hd)
        have hd1 : ((dg DD a p : Int) != (dg DD b p : Int)) = false := by simp; omega
        have hd2 : ¬ dg DD a p < dg DD b p := by omega
        have hd3 : ¬ dg DD b p < dg DD a p := by omega
        clear hd
        go_wp2_with fail
        go_quiet (fail)
        go_wp2_with fail
        go_roundw
        case rel => exact ⟨p, by omega, rfl, HE2.out, below_drewN HN.out _⟩
        case measure => first | (simp [intOf]; done) | (simp [intOf]; omega)
      · have hcmp : Hid (b < a) := lt_of_dg b a p HE.out.symm hd
        have hd1 : ((dg DD a p : Int) != (dg DD b p : Int)) = true := by simp; omega
        have hd2 : ¬ dg DD a p < dg DD b p := by omega
        go_wp2_with fail
        go_quiet (fail)
        go_wp2_with fail
        go_quiet (fail)
        go_wp2_with fail
        go_ret
        exact ⟨ret_int (by have := hcmp.out; unfold cmpI; rw [if_neg (by omega), if_pos this]), by first | exact below_drewN (below_drewN HN.out _) _ | exact below_drewN HN.out _⟩

theorem refCompare_any (a b : Nat) (aa ab : Option Addr) (ca cb : Nat) (hla : dl a ≤ 1048576) (w : World) (hA : NumAt w aa a) (hB : NumAt w ab b) :
    Calls Tryz.prog 63 #[.slice aa (dl a) ca, .slice ab (dl b) cb] w fun e w' => e = .returned (.int .i64 (cmpI a b)) ∧ Below w.heap.size w w' := by
  by_cases h : dl a = dl b
  · have h1 := refCompare_same a b aa ab ca cb (dl a) rfl h.symm hla w hA hB
    rw [← h]
    exact h1
  · exact refCompare_len a b aa ab ca cb h w


set_option maxHeartbeats 1000000 in
theorem refRead_any (s : ByteArray) (hs : s.size ≤ 1048576) (w : World) :
    Calls Tryz.prog 61 #[.string s] w fun e w' => NumR w e w' (numOf s) := by
  obtain ⟨i0, hi, hz0, hz1, hz2⟩ := info_parts infoInt3
  obtain ⟨K, hK⟩ : ∃ K, (s.size + 1) / 2 = K := ⟨_, rfl⟩
  have hK1 : ((s.size : Int) + 1) / 2 = (K : Int) := by omega
  go_enter Tryz.func61, Tryz.ntmps61
  go_wp2_with (at_make; refine wpList_make_full _ rfl _ _ 84 rfl 0 3 i0 (.int .i64 0) 1 Tryz.underlying84 hi hz0 hz1 _ _ _ _ K rfl rfl ?c1 ?c2 ?c3 ?c4 ?c5 ?_)
  case c1 => exact hK1
  case c2 => exact hK1
  case c3 => rw [hz2]; omega
  case c4 => unfold maxLen; omega
  case c5 => omega
  intro w1 hown hgrow
  have e0 : digsTo 0 K = digsTo (numTo s 0) K := by rw [numTo_zero]
  rw [zeros_made, e0] at hown
  have HO1 := Lib.hid hown
  have HB1 : Hid (Below w.heap.size w w1) := (Below.refl _ _).grown hgrow (Nat.le_refl _) (by simp)
  have HK := Lib.hid hK
  have hKs : K ≤ 1048576 := by omega
  clear hown hgrow hi hz0 hz1 hz2 e0 hK hK1
  go_wp2_with fail
  go_loopw [4, 5] (fun x _ wr => ∃ k : Nat, k ≤ s.size ∧ x = .int .i64 k ∧ Hid (wr.ownsRow 0 3 1 (.slice (some ⟨w.heap.size, 0, none⟩) K K) K ((digsTo (numTo s k) K).map dV)) ∧ Hid (Below w.heap.size w wr)) (fun x _ _ => s.size - (intOf x).toNat)
  case atStart => exact ⟨0, Nat.zero_le _, rfl, HO1.out, HB1.out⟩
  case round =>
    clear HO1 HB1
    obtain ⟨k, hk, rfl, HO, HN⟩ := hrel
    by_cases hkl : k < s.size
    · have hkK : k / 2 < K := by have := HK.out; omega
      have hx := HO.out.cellAt (k / 2) (by omega)
      have hxv : ((digsTo (numTo s k) K).map dV)[k / 2]? = some (.int .i64 (dg DD (numTo s k) (k / 2) : Int)) := by simp [digsTo, hkK, dV]
      rw [hxv] at hx
      have hf := HO.out.frozenAt (k / 2)
      have hidx : (s.size : Int) - 1 - (k : Int) = ((s.size - 1 - k : Nat) : Int) := by omega
      have hlt : s.size - 1 - k < s.size := by omega
      have hc256 := (s[s.size - 1 - k]'hlt).toNat_lt
      have hdlt : dg DD (numTo s k) (k / 2) < 65536 := dg_lt (B := DD) (by decide) _ _
      have HNS := Lib.hid (numTo_succ s k hkl)
      clear hxv
      generalize hcc : (s[s.size - 1 - k]'hlt).toNat = c at *
      have hk1 : k % 2 = 0 ∨ k % 2 = 1 := by omega
      rcases hk1 with hk1 | hk1
      · have hodd : ((k : Int) % 2 == 1) = false := by simp; omega
        have HK1 := Lib.hid hk1
        clear hk1
        have hput := digsTo_put (numTo s k) c k K (numTo_lt s k hk) hc256
        rw [← HNS.out, HK1.out, Nat.pow_zero, Nat.mul_one] at hput
        have hst := (HO.out.stored (k / 2) (.int .i64 ((dg DD (numTo s k) (k / 2) : Int) + (c : Int)))).1
        rw [show (Value.int .i64 ((dg DD (numTo s k) (k / 2) : Int) + (c : Int))) = dV (dg DD (numTo s k) (k / 2) + c) from by unfold dV; congr 1, ← List.map_set, hput] at hst
        have HS := Lib.hid hst
        have HSB := Lib.hid (HN.out.setCell (p := ⟨w.heap.size, k / 2, none⟩) (Nat.le_refl _) (.int .i64 ((dg DD (numTo s k) (k / 2) : Int) + (c : Int))))
        clear hst hput
        go_wp2_with fail
        go_roundw
        case rel => exact ⟨k + 1, by omega, by go_num, HS.out, HSB.out⟩
        case measure => simp [intOf]; omega
      · have hodd : ((k : Int) % 2 == 1) = true := by simp; omega
        have HK1 := Lib.hid hk1
        clear hk1
        have hput := digsTo_put (numTo s k) c k K (numTo_lt s k hk) hc256
        rw [← HNS.out, HK1.out, Nat.pow_one] at hput
        have hst := (HO.out.stored (k / 2) (.int .i64 ((dg DD (numTo s k) (k / 2) : Int) + (c : Int) * 256))).1
        rw [show (Value.int .i64 ((dg DD (numTo s k) (k / 2) : Int) + (c : Int) * 256)) = dV (dg DD (numTo s k) (k / 2) + c * 256) from by unfold dV; congr 1, ← List.map_set, hput] at hst
        have HS := Lib.hid hst
        have HSB := Lib.hid (HN.out.setCell (p := ⟨w.heap.size, k / 2, none⟩) (Nat.le_refl _) (.int .i64 ((dg DD (numTo s k) (k / 2) : Int) + (c : Int) * 256)))
        clear hst hput
        go_wp2_with fail
        go_roundw
        case rel => exact ⟨k + 1, by omega, by go_num, HS.out, HSB.out⟩
        case measure => simp [intOf]; omega
    · have hks : k = s.size := by omega
      subst hks
      rw [numTo_all] at HO
      have hlt : numOf s < DD ^ K := by
        have h := numL_lt s.data.toList
        have e : s.data.toList.length = s.size := rfl
        rw [e] at h
        refine Nat.lt_of_lt_of_le h ?_
        show 256 ^ s.size ≤ (256 ^ 2) ^ K
        rw [← Nat.pow_mul]
        exact Nat.pow_le_pow_right (by omega) (by have := HK.out; omega)
      have HLT := Lib.hid hlt
      clear hlt
      go_wp2_with fail
      refine (trim_own HO.out HLT.out (by omega)).mono ?_
      rintro e w' ⟨a', cap', rfl, hN, _, rfl⟩
      have HNN := Lib.hid hN
      clear hN
      go_wp2_with fail
      go_ret
      exact ⟨a', cap', rfl, HNN.out, HN.out⟩

end Go.Proofs.YtdlnnkbigeiilaaGreat

/- The document's numbers: what is taken off; what is left of a modulus. No condition. -/
namespace Go.Proofs.YtdlnnkbigeiilaaGreat
open Go.RowKit

/-- A row of K cells of which the first i are written. -/
def rowZ (n i K : Nat) : List Nat := (List.range K).map fun p => if p < i then dg DD n p else 0
theorem rowZ_zero (n K : Nat) : rowZ n 0 K = digsTo 0 K := by
  unfold rowZ digsTo
  refine List.map_congr_left fun p _ => ?_
  simp [dg]
theorem rowZ_at (n i K : Nat) (h : i < K) : ((rowZ n i K).map dV)[i]? = some (.int .i64 0) := by
  simp [rowZ, h, dV]
theorem rowZ_set (n i K : Nat) : ((rowZ n i K).map dV).set i (.int .i64 (dg DD n i : Int)) = (rowZ n (i + 1) K).map dV := by
  rw [show (Value.int .i64 (dg DD n i : Int)) = dV (dg DD n i) from rfl, ← List.map_set]
  congr 1
  refine List.ext_getElem (by simp [rowZ]) (fun p h1 h2 => ?_)
  rw [List.getElem_set]
  simp only [rowZ, List.getElem_map, List.getElem_range]
  by_cases h : i = p
  · subst h; rw [if_pos rfl, if_pos (by omega)]
  · rw [if_neg h]
    by_cases h3 : p < i
    · rw [if_pos h3, if_pos (by omega)]
    · rw [if_neg h3, if_neg (by omega)]
theorem rowZ_end (n K : Nat) : rowZ n K K = digsTo n K := by
  unfold rowZ digsTo
  refine List.map_congr_left fun p hp => ?_
  rw [if_pos (by simpa using hp)]

/-- What stands in a digit when something is taken off. -/
theorem take_digit (r s n i : Nat) : (dg DD (r + n * s) i : Int) - (mcB DD r s n i : Int) - (n : Int) * (dg DD s i : Int) = (dg DD r i : Int) - 65536 * (mcB DD r s n (i + 1) : Int) := by
  have h1 := mcB_dig (B := DD) (by decide) r s n i
  have h2 := mcB_succ (B := DD) (by decide) r s n i
  have h3 := Nat.div_add_mod (dg DD r i + n * dg DD s i + mcB DD r s n i) DD
  rw [h1, h2] at h3
  have h4 : (n : Int) * (dg DD s i : Int) = ((n * dg DD s i : Nat) : Int) := by simp
  rw [h4]
  have h5 : 65536 * mcB DD r s n (i + 1) + dg DD (r + n * s) i = dg DD r i + n * dg DD s i + mcB DD r s n i := h3
  omega


set_option maxHeartbeats 2000000 in
theorem refTake_any (a b n k R : Nat) (aa ab : Option Addr) (ca cb : Nat) (hla : dl a ≤ 1048576) (hlb : dl b ≤ 1048576) (hn : n ≤ 1099511627776) (hk : k ≤ 1048576) (hR : a = R + n * (b * DD ^ k)) (w : World) (hA : NumAt w aa a) (hB : NumAt w ab b) :
    Calls Tryz.prog 150 #[.slice aa (dl a) ca, .slice ab (dl b) cb, .int .i64 (n : Int), .int .i64 (k : Int)] w fun e w' => NumR w e w' R := by
  obtain ⟨i0, hi, hz0, hz1, hz2⟩ := info_parts infoInt3
  have HA := Lib.hid hA
  have HB := Lib.hid hB
  have HR := Lib.hid hR
  clear hA hB hR
  go_enter Tryz.func150, Tryz.ntmps150
  go_wp2_with (at_make; refine wpList_make_full _ rfl _ _ 84 rfl 0 3 i0 (.int .i64 0) 1 Tryz.underlying84 hi hz0 hz1 _ _ _ _ (dl a) rfl rfl ?c1 ?c2 ?c3 ?c4 ?c5 ?_)
  case c1 => rfl
  case c2 => rfl
  case c3 => rw [hz2]; omega
  case c4 => unfold maxLen; omega
  case c5 => omega
  intro w1 hown hgrow
  rw [zeros_made, ← rowZ_zero R] at hown
  have HO1 := Lib.hid hown
  have HB1 : Hid (Below w.heap.size w w1) := (Below.refl _ _).grown hgrow (Nat.le_refl _) (by simp)
  clear hown hgrow hi hz0 hz1 hz2
  go_wp2_with fail
  go_loopw [10, 11, 12] (fun c x _ wr => ∃ i : Nat, i ≤ dl a ∧ x = .int .i64 i ∧ c = .int .i64 (mcB DD R (b * DD ^ k) n i : Nat) ∧ Hid (wr.ownsRow 0 3 1 (.slice (some ⟨w.heap.size, 0, none⟩) (dl a) (dl a)) (dl a) ((rowZ R i (dl a)).map dV)) ∧ Hid (Below w.heap.size w wr)) (fun _ x _ _ => dl a - (intOf x).toNat)
  case atStart => exact ⟨0, Nat.zero_le _, rfl, by rw [mcB_zero]; rfl, HO1.out, HB1.out⟩
  case round =>
    clear HO1 HB1
    obtain ⟨i, hi, rfl, rfl, HO, HN⟩ := hrel
    by_cases hil : i < dl a
    · obtain ⟨b1, o1, rfl, hb1, hcell1⟩ := HA.out.all (by omega)
      have hx1 : wr.cell? ⟨b1, o1 + i, none⟩ = some (.int .i64 (dg DD a i : Int)) := by rw [HN.out.cell (p := ⟨b1, o1 + i, none⟩) hb1]; exact hcell1 _ hil
      have hda : dg DD a i < 65536 := dg_lt (B := DD) (by decide) _ _
      have hdr : dg DD R i < 65536 := dg_lt (B := DD) (by decide) _ _
      have hc1 := mcB_le (B := DD) (by decide) R (b * DD ^ k) n i
      have hc2 := mcB_le (B := DD) (by decide) R (b * DD ^ k) n (i + 1)
      have htd := take_digit R (b * DD ^ k) n i
      rw [← HR.out] at htd
      have hx3 := HO.out.cellAt i (by omega)
      rw [rowZ_at R i (dl a) hil] at hx3
      have hf3 := HO.out.frozenAt i
      generalize mcB DD R (b * DD ^ k) n i = c at *
      generalize hcc : mcB DD R (b * DD ^ k) n (i + 1) = c2 at *
      have HC2 : Hid (mcB DD R (b * DD ^ k) n (i + 1) = c2) := hcc
      clear hcell1 hcc
      by_cases hik : k ≤ i ∧ i - k < dl b
      · obtain ⟨hik1, hik2⟩ := hik
        obtain ⟨b2, o2, rfl, hb2, hcell2⟩ := HB.out.all (by omega)
        have hx2 : wr.cell? ⟨b2, o2 + (i - k), none⟩ = some (.int .i64 (dg DD b (i - k) : Int)) := by rw [HN.out.cell (p := ⟨b2, o2 + (i - k), none⟩) hb2]; exact hcell2 _ hik2
        have hdb : dg DD b (i - k) < 65536 := dg_lt (B := DD) (by decide) _ _
        have hsh := dg_shift b k (i - k)
        rw [show k + (i - k) = i by omega] at hsh
        rw [hsh] at htd
        have hidx : (i : Int) - (k : Int) = ((i - k : Nat) : Int) := by omega
        clear hcell2 hsh
        generalize dg DD b (i - k) = db at *
        generalize hda' : dg DD a i = da at *
        have hprod : n * db ≤ 1099511627776 * 65535 := Nat.mul_le_mul hn (by omega)
        have hpi : (n : Int) * (db : Int) = ((n * db : Nat) : Int) := by simp
        rw [hpi] at htd
        generalize hpr : n * db = pr at *
        have HDA := Lib.hid hda'
        have HPR := Lib.hid hpr
        clear hda' hpr
        have hkI : (k : Int) ≤ (i : Int) := by omega
        have hst := (HO.out.stored i (.int .i64 (dg DD R i : Int))).1
        rw [rowZ_set] at hst
        have HS := Lib.hid hst
        have HSB := Lib.hid (HN.out.setCell (p := ⟨w.heap.size, i, none⟩) (Nat.le_refl _) (.int .i64 (dg DD R i : Int)))
        clear hst
        obtain ⟨d, hd⟩ : ∃ d : Int, (da : Int) - (c : Int) - (pr : Int) = d := ⟨_, rfl⟩
        rw [hd] at htd
        have hdlo : -72057594037927936 ≤ d := by omega
        have hdhi : d ≤ 65535 := by omega
        by_cases hneg : 0 < c2
        · have hd2 : d < 0 := by omega
          have hdn : (65535 - d) / 65536 = (c2 : Int) := by omega
          have hds : d + (c2 : Int) * 65536 = (dg DD R i : Int) := by omega
          have HTD := Lib.hid htd
          clear htd
          go_wp2_with fail
          go_roundw
          case rel => exact ⟨i + 1, by omega, by go_num, by first | rw [hdn, HC2.out] | rw [HC2.out], HS.out, HSB.out⟩
          case measure => simp [intOf]; omega
        · have hc0 : c2 = 0 := by omega
          have hd2 : ¬ d < 0 := by omega
          have hds : d = (dg DD R i : Int) := by omega
          have HC0 := Lib.hid hc0
          have HDS := Lib.hid hds
          have HTD := Lib.hid htd
          rw [← hds] at HS HSB
          clear hc0 hds htd
          go_wp2_with fail
          go_roundw
          case rel => exact ⟨i + 1, by omega, by go_num, by rw [HC2.out, HC0.out]; rfl, HS.out, HSB.out⟩
          case measure => simp [intOf]; omega
      · have h0 : dg DD (b * DD ^ k) i = 0 := by
          rcases Nat.lt_or_ge i k with h | h
          · unfold dg
            have e : DD ^ k = DD ^ i * (DD * DD ^ (k - i - 1)) := by rw [← Nat.pow_succ', ← Nat.pow_add]; congr 1; omega
            rw [e, Nat.mul_left_comm, Nat.mul_div_cancel_left _ (Nat.pow_pos (by decide)), Nat.mul_left_comm, Nat.mul_mod_right]
          · have hsh := dg_shift b k (i - k)
            rw [show k + (i - k) = i by omega] at hsh
            rw [hsh]
            exact dg_nought b _ (by omega)
        rw [h0] at htd
        have htd2 : (dg DD a i : Int) - (c : Int) = (dg DD R i : Int) - 65536 * (c2 : Int) := by simpa using htd
        clear h0 htd
        have htd := htd2
        clear htd2
        generalize hda' : dg DD a i = da at *
        have HDA := Lib.hid hda'
        clear hda'
        by_cases hik1 : k ≤ i
        · have hik2 : ¬ i - k < dl b := fun h => hik ⟨hik1, h⟩
          have hidx : (i : Int) - (k : Int) = ((i - k : Nat) : Int) := by omega
          clear hik
          have hst := (HO.out.stored i (.int .i64 (dg DD R i : Int))).1
          rw [rowZ_set] at hst
          have HS := Lib.hid hst
          have HSB := Lib.hid (HN.out.setCell (p := ⟨w.heap.size, i, none⟩) (Nat.le_refl _) (.int .i64 (dg DD R i : Int)))
          clear hst
          obtain ⟨d, hd⟩ : ∃ d : Int, (da : Int) - (c : Int) = d := ⟨_, rfl⟩
          rw [hd] at htd
          have hdlo : -72057594037927936 ≤ d := by omega
          have hdhi : d ≤ 65535 := by omega
          by_cases hneg : 0 < c2
          · have hd2 : d < 0 := by omega
            have hdn : (65535 - d) / 65536 = (c2 : Int) := by omega
            have hds : d + (c2 : Int) * 65536 = (dg DD R i : Int) := by omega
            have HTD := Lib.hid htd
            clear htd
            go_wp2_with fail
            go_roundw
            case rel => exact ⟨i + 1, by omega, by go_num, by first | rw [hdn, HC2.out] | rw [HC2.out], HS.out, HSB.out⟩
            case measure => simp [intOf]; omega
          · have hc0 : c2 = 0 := by omega
            have hd2 : ¬ d < 0 := by omega
            have hds : d = (dg DD R i : Int) := by omega
            have HC0 := Lib.hid hc0
            have HDS := Lib.hid hds
            have HTD := Lib.hid htd
            rw [← hds] at HS HSB
            clear hc0 hds htd
            go_wp2_with fail
            go_roundw
            case rel => exact ⟨i + 1, by omega, by go_num, by rw [HC2.out, HC0.out]; rfl, HS.out, HSB.out⟩
            case measure => simp [intOf]; omega
        · clear hik
          have hst := (HO.out.stored i (.int .i64 (dg DD R i : Int))).1
          rw [rowZ_set] at hst
          have HS := Lib.hid hst
          have HSB := Lib.hid (HN.out.setCell (p := ⟨w.heap.size, i, none⟩) (Nat.le_refl _) (.int .i64 (dg DD R i : Int)))
          clear hst
          obtain ⟨d, hd⟩ : ∃ d : Int, (da : Int) - (c : Int) = d := ⟨_, rfl⟩
          rw [hd] at htd
          have hdlo : -72057594037927936 ≤ d := by omega
          have hdhi : d ≤ 65535 := by omega
          by_cases hneg : 0 < c2
          · have hd2 : d < 0 := by omega
            have hdn : (65535 - d) / 65536 = (c2 : Int) := by omega
            have hds : d + (c2 : Int) * 65536 = (dg DD R i : Int) := by omega
            have HTD := Lib.hid htd
            clear htd
            go_wp2_with fail
            go_roundw
            case rel => exact ⟨i + 1, by omega, by go_num, by first | rw [hdn, HC2.out] | rw [HC2.out], HS.out, HSB.out⟩
            case measure => simp [intOf]; omega
          · have hc0 : c2 = 0 := by omega
            have hd2 : ¬ d < 0 := by omega
            have hds : d = (dg DD R i : Int) := by omega
            have HC0 := Lib.hid hc0
            have HDS := Lib.hid hds
            have HTD := Lib.hid htd
            rw [← hds] at HS HSB
            clear hc0 hds htd
            go_wp2_with fail
            go_roundw
            case rel => exact ⟨i + 1, by omega, by go_num, by rw [HC2.out, HC0.out]; rfl, HS.out, HSB.out⟩
            case measure => simp [intOf]; omega
    · have hia : i = dl a := by omega
      subst hia
      rw [rowZ_end] at HO
      have hlt : R < DD ^ dl a := Nat.lt_of_le_of_lt (by have := HR.out; omega) (lt_dl a)
      have HLT := Lib.hid hlt
      clear hlt
      go_wp2_with fail
      refine (trim_own HO.out HLT.out (by omega)).mono ?_
      rintro e w' ⟨a', cap', rfl, hN, _, rfl⟩
      have HNN := Lib.hid hN
      clear hN
      go_wp2_with fail
      go_ret
      exact ⟨a', cap', rfl, HNN.out, HN.out⟩

end Go.Proofs.YtdlnnkbigeiilaaGreat

/- The document's numbers: what is left of a modulus. No condition. -/
namespace Go.Proofs.YtdlnnkbigeiilaaGreat
open Go.RowKit

theorem top_div (n : Nat) (h : n ≠ 0) : n / DD ^ (dl n - 1) = dg DD n (dl n - 1) := by
  have h2 := lt_dl n
  have hp := dl_pos n h
  have e : DD ^ dl n = DD ^ (dl n - 1) * DD := by rw [← Nat.pow_succ]; congr 1; omega
  unfold dg
  rw [Nat.mod_eq_of_lt (Nat.div_lt_of_lt_mul (by rw [← e]; exact h2))]

theorem top_lt (m : Nat) (h : m ≠ 0) : m < (dg DD m (dl m - 1) + 1) * DD ^ (dl m - 1) := by
  have h1 := top_div m h
  have h2 := Nat.div_add_mod m (DD ^ (dl m - 1))
  have h3 := Nat.mod_lt m (Nat.pow_pos (n := dl m - 1) (show 0 < DD by decide))
  rw [h1] at h2
  rw [Nat.add_mul, Nat.one_mul, Nat.mul_comm (dg DD m (dl m - 1))]
  omega

theorem quo_step (A m x q e : Nat) (hm : m ≠ 0) (hx : x * DD ^ e ≤ A) (hq : q = x / (dg DD m (dl m - 1) + 1)) (he : dl m - 1 ≤ e) : q * (m * DD ^ (e - (dl m - 1))) ≤ A := by
  have h1 := top_lt m hm
  have h2 : q * (dg DD m (dl m - 1) + 1) ≤ x := by rw [hq]; exact Nat.div_mul_le_self _ _
  have h3 : DD ^ e = DD ^ (dl m - 1) * DD ^ (e - (dl m - 1)) := by rw [← Nat.pow_add]; congr 1; omega
  generalize dg DD m (dl m - 1) + 1 = t at *
  generalize DD ^ (dl m - 1) = P at *
  generalize DD ^ (e - (dl m - 1)) = S at *
  calc q * (m * S) ≤ q * (t * P * S) := Nat.mul_le_mul_left _ (Nat.mul_le_mul_right _ (Nat.le_of_lt h1))
    _ = q * t * (P * S) := by rw [Nat.mul_assoc t, Nat.mul_assoc q]
    _ ≤ x * (P * S) := Nat.mul_le_mul_right _ h2
    _ = x * DD ^ e := by rw [h3]
    _ ≤ A := hx

theorem mod_one (A m : Nat) (hA : A ≠ 0) (hm : m ≠ 0) (hle : dl m ≤ dl A) : dg DD A (dl A - 1) / (dg DD m (dl m - 1) + 1) * (m * DD ^ (dl A - dl m)) ≤ A := by
  have h := quo_step A m (dg DD A (dl A - 1)) _ (dl A - 1) hm (by rw [← top_div A hA]; exact Nat.div_mul_le_self _ _) rfl (by omega)
  have := dl_pos m hm
  rwa [show dl A - 1 - (dl m - 1) = dl A - dl m by omega] at h
theorem mod_two (A m : Nat) (hA : A ≠ 0) (hm : m ≠ 0) (hle : dl m < dl A) : (dg DD A (dl A - 1) * DD + dg DD A (dl A - 2)) / (dg DD m (dl m - 1) + 1) * (m * DD ^ (dl A - dl m - 1)) ≤ A := by
  have hp := dl_pos m hm
  have h2 := dg_div (B := DD) A (dl A - 2)
  rw [show dl A - 2 + 1 = dl A - 1 by omega, top_div A hA, Nat.mul_comm] at h2
  have h := quo_step A m (dg DD A (dl A - 1) * DD + dg DD A (dl A - 2)) _ (dl A - 2) hm (by rw [← h2]; exact Nat.div_mul_le_self _ _) rfl (by omega)
  rwa [show dl A - 2 - (dl m - 1) = dl A - dl m - 1 by omega] at h

theorem take_mod (A m n s : Nat) (h : n * (m * s) ≤ A) : (A - n * (m * s)) % m = A % m := by
  have e : A = (A - n * (m * s)) + m * (n * s) := by rw [show m * (n * s) = n * (m * s) by rw [Nat.mul_left_comm]]; omega
  rw [← Nat.add_mul_mod_self_left (A - n * (m * s)) m (n * s), ← e]


set_option maxHeartbeats 2000000 in
theorem refMod_any (a m : Nat) (aa am : Option Addr) (ca cm : Nat) (hla : dl a ≤ 1048576) (hm0 : 0 < m) (w : World) (hA : NumAt w aa a) (hM : NumAt w am m) :
    Calls Tryz.prog 110 #[.slice aa (dl a) ca, .slice am (dl m) cm] w fun e w' => NumR w e w' (a % m) := by
  have HA := Lib.hid hA
  have HMM := Lib.hid hM
  clear hA hM
  go_enter Tryz.func110, Tryz.ntmps110
  go_wp2_with fail
  go_loopg [0, 5, 6] a (fun g v _ _ wr => ∃ (A : Nat) (a1 : Option Addr) (c1 : Nat), g = A ∧ v = .slice a1 (dl A) c1 ∧ Hid (A % m = a % m) ∧ A ≤ a ∧ Hid (NumAt wr a1 A) ∧ Hid (Below w.heap.size w wr))
  case atStart => exact ⟨a, aa, ca, rfl, rfl, rfl, Nat.le_refl _, HA.out, Below.refl _ _⟩
  case round =>
    obtain ⟨A, a1, c1, hg, rfl, HM, hAa, HN, HB⟩ := hrel
    obtain ⟨G9, hG9⟩ : ∃ G9, gk = G9 := ⟨_, rfl⟩
    rw [hG9] at hg
    subst hg
    subst hG9
    obtain ⟨A, rfl⟩ : ∃ A, A = gk := ⟨_, rfl⟩
    clear HA
    have hdA := dl_mono _ _ hAa
    go_wp2_with fail
    refine (refCompare_any A m a1 am c1 cm (by omega) wr HN.out (HMM.out.up HB.out)).mono ?_
    rintro e w2 ⟨rfl, hb2⟩
    have HB2 := Lib.hid (below_up HB.out hb2)
    have HN2 := Lib.hid (HN.out.up hb2)
    have HMM2 := Lib.hid (HMM.out.up HB2.out)
    clear hb2 HN HB
    by_cases hlt : A < m
    · have hc : cmpI A m = -1 := by unfold cmpI; rw [if_pos hlt]
      rw [hc]
      clear hc
      have HRES : Hid (A = a % m) := by show _ = _; rw [← HM.out, Nat.mod_eq_of_lt hlt]
      go_wp2_with fail
      go_ret
      exact ⟨a1, c1, by rw [← HRES.out]; rfl, by rw [← HRES.out]; exact HN2.out, HB2.out⟩
    · have hle : m ≤ A := by omega
      have HLEM := Lib.hid hle
      obtain ⟨c, hc, hc0⟩ : ∃ c, cmpI A m = c ∧ 0 ≤ c := ⟨_, rfl, by unfold cmpI; rw [if_neg hlt]; split <;> omega⟩
      rw [hc]
      clear hc hlt hle
      have hA0 : A ≠ 0 := by have := HLEM.out; omega
      have hm1 : m ≠ 0 := by omega
      have hlm := dl_mono _ _ HLEM.out
      have hpA := dl_pos A hA0
      have hpm := dl_pos m hm1
      have htA := dl_top A hA0
      have h1 := mod_one A m hA0 hm1 hlm
      have hdA : dg DD A (dl A - 1) < 65536 := dg_lt (B := DD) (by decide) _ _
      have hdA2 : dg DD A (dl A - 2) < 65536 := dg_lt (B := DD) (by decide) _ _
      have hdm : dg DD m (dl m - 1) < 65536 := dg_lt (B := DD) (by decide) _ _
      have H2 : Hid (dl m < dl A → (dg DD A (dl A - 1) * DD + dg DD A (dl A - 2)) / (dg DD m (dl m - 1) + 1) * (m * DD ^ (dl A - dl m - 1)) ≤ A) := fun h => mod_two A m hA0 hm1 h
      obtain ⟨b1, o1, rfl, hb1, hcell1⟩ := HN2.out.all hpA
      obtain ⟨b2, o2, rfl, hb2, hcell2⟩ := HMM2.out.all hpm
      have hx1 := hcell1 (dl A - 1) (by omega)
      have hx2 := hcell2 (dl m - 1) (by omega)
      have hx3 : dl m < dl A → w2.cell? ⟨b1, o1 + (dl A - 2), none⟩ = some (.int .i64 (dg DD A (dl A - 2) : Int)) := fun h => hcell1 (dl A - 2) (by omega)
      have HX3 := Lib.hid hx3
      have hi1 : (dl A : Int) - 1 = ((dl A - 1 : Nat) : Int) := by omega
      have hi2 : (dl m : Int) - 1 = ((dl m - 1 : Nat) : Int) := by omega
      have hi3 : (dl A : Int) - (dl m : Int) = ((dl A - dl m : Nat) : Int) := by omega
      have H1 := Lib.hid h1
      clear hcell1 hcell2 hx3 h1
      generalize hat : dg DD A (dl A - 1) = at1 at *
      generalize han : dg DD A (dl A - 2) = an1 at *
      generalize hmt : dg DD m (dl m - 1) = mt1 at *
      have HAT := Lib.hid hat
      have HAN := Lib.hid han
      have HMT := Lib.hid hmt
      clear hat han hmt
      obtain ⟨q, hq⟩ : ∃ q, at1 / (mt1 + 1) = q := ⟨_, rfl⟩
      have hqI : (at1 : Int) / ((mt1 : Int) + 1) = (q : Int) := by rw [← hq]; simp
      have hq9 : q ≤ 65535 := by rw [← hq]; exact Nat.le_trans (Nat.div_le_self _ _) (by omega)
      have H1' := H1.out
      rw [hq] at H1'
      have HLE1 := Lib.hid H1'
      clear H1' H1 hq
      go_wp2_with fail
      go_quiet (fail)
      have HN3 := Lib.hid (HN2.out.up (below_drewN (Below.refl _ w2) nq))
      have HMM3 := Lib.hid (HMM2.out.up (below_drewN (Below.refl _ w2) nq))
      have HB3 := Lib.hid (below_drewN HB2.out nq)
      by_cases hq0 : q = 0
      · subst hq0
        by_cases hk0 : dl m < dl A
        · have hx3 := HX3.out hk0
          have h2 := H2.out hk0
          have hkp : 0 < dl A - dl m := by omega
          have hi4 : (dl A : Int) - 2 = ((dl A - 2 : Nat) : Int) := by omega
          have hi5 : ((dl A - dl m : Nat) : Int) - 1 = ((dl A - dl m - 1 : Nat) : Int) := by omega
          obtain ⟨q2, hq2⟩ : ∃ q2, (at1 * DD + an1) / (mt1 + 1) = q2 := ⟨_, rfl⟩
          rw [hq2] at h2
          have hqI2 : ((at1 : Int) * 65536 + (an1 : Int)) / ((mt1 : Int) + 1) = (q2 : Int) := by rw [← hq2]; simp
          have hq29 : q2 ≤ 4294967295 := by rw [← hq2]; exact Nat.le_trans (Nat.div_le_self _ _) (by show at1 * 65536 + an1 ≤ _; omega)
          have hq21 : 1 ≤ q2 := by rw [← hq2]; exact (Nat.le_div_iff_mul_le (by omega)).2 (by show 1 * (mt1 + 1) ≤ at1 * 65536 + an1; omega)
          have hq20 : ((q2 : Int) == 0) = false := by simp; omega
          have HLE := Lib.hid h2
          clear h2 hq2 HLE1
          go_wp2_with fail
          go_quiet (fail)
          have hsub : A - q2 * (m * DD ^ (dl A - dl m - 1)) < A := by
            have h1 : 0 < q2 * (m * DD ^ (dl A - dl m - 1)) := Nat.mul_pos (by omega) (Nat.mul_pos (by omega) (Nat.pow_pos (by decide)))
            omega
          have HSUB := Lib.hid hsub
          have HTM := Lib.hid (take_mod A m (q2) (DD ^ (dl A - dl m - 1)) HLE.out)
          clear hsub
          go_wp2_with fail
          refine (refTake_any A m (q2) (dl A - dl m - 1) (A - q2 * (m * DD ^ (dl A - dl m - 1))) _ _ _ _ (by omega) (by omega) (by omega) (by omega) (by have := HLE.out; omega) _ (NumAt.up HN2.out (below_drewN (Below.refl _ w2) _)) (NumAt.up HMM2.out (below_drewN (Below.refl _ w2) _))).mono ?_
          rintro e w4 ⟨a4, c4, rfl, hn4, hb4⟩
          have HN4 := Lib.hid hn4
          have HB4 := Lib.hid (below_up (below_drewN HB2.out _) hb4)
          clear hn4 hb4
          go_wp2_with fail
          go_roundg (A - q2 * (m * DD ^ (dl A - dl m - 1)))
          case measure => exact HSUB.out
          case rel => exact ⟨_, a4, c4, rfl, by first | rfl | rw [Nat.one_mul], by rw [HTM.out]; exact HM.out, Nat.le_trans (Nat.le_of_lt HSUB.out) hAa, HN4.out, HB4.out⟩
        · have hk00 : dl A - dl m = 0 := by omega
          have hkp : ¬ 0 < dl A - dl m := by omega
          have HLE : Hid (1 * (m * DD ^ (dl A - dl m)) ≤ A) := by
            show _ ≤ _
            rw [hk00, Nat.pow_zero, Nat.mul_one, Nat.one_mul]
            exact HLEM.out
          have hkI : ¬ (0 : Int) < ((dl A - dl m : Nat) : Int) := by omega
          clear hk00 HLE1
          have hsub : A - 1 * (m * DD ^ (dl A - dl m)) < A := by
            have h1 : 0 < 1 * (m * DD ^ (dl A - dl m)) := Nat.mul_pos (by omega) (Nat.mul_pos (by omega) (Nat.pow_pos (by decide)))
            omega
          have HSUB := Lib.hid hsub
          have HTM := Lib.hid (take_mod A m (1) (DD ^ (dl A - dl m)) HLE.out)
          clear hsub
          go_wp2_with fail
          refine (refTake_any A m (1) (dl A - dl m) (A - 1 * (m * DD ^ (dl A - dl m))) _ _ _ _ (by omega) (by omega) (by omega) (by omega) (by have := HLE.out; omega) _ HN3.out HMM3.out).mono ?_
          rintro e w4 ⟨a4, c4, rfl, hn4, hb4⟩
          have HN4 := Lib.hid hn4
          have HB4 := Lib.hid (below_up HB3.out hb4)
          clear hn4 hb4
          go_wp2_with fail
          go_roundg (A - 1 * (m * DD ^ (dl A - dl m)))
          case measure => exact HSUB.out
          case rel => exact ⟨_, a4, c4, rfl, by first | rfl | rw [Nat.one_mul], by rw [HTM.out]; exact HM.out, Nat.le_trans (Nat.le_of_lt HSUB.out) hAa, HN4.out, HB4.out⟩
      · have hq1 : ((q : Int) == 0) = false := by simp; omega
        have HLE := HLE1
        clear HLE1
        have hsub : A - q * (m * DD ^ (dl A - dl m)) < A := by
          have h1 : 0 < q * (m * DD ^ (dl A - dl m)) := Nat.mul_pos (by omega) (Nat.mul_pos (by omega) (Nat.pow_pos (by decide)))
          omega
        have HSUB := Lib.hid hsub
        have HTM := Lib.hid (take_mod A m (q) (DD ^ (dl A - dl m)) HLE.out)
        clear hsub
        go_wp2_with fail
        refine (refTake_any A m (q) (dl A - dl m) (A - q * (m * DD ^ (dl A - dl m))) _ _ _ _ (by omega) (by omega) (by omega) (by omega) (by have := HLE.out; omega) _ HN3.out HMM3.out).mono ?_
        rintro e w4 ⟨a4, c4, rfl, hn4, hb4⟩
        have HN4 := Lib.hid hn4
        have HB4 := Lib.hid (below_up HB3.out hb4)
        clear hn4 hb4
        go_wp2_with fail
        go_roundg (A - q * (m * DD ^ (dl A - dl m)))
        case measure => exact HSUB.out
        case rel => exact ⟨_, a4, c4, rfl, by first | rfl | rw [Nat.one_mul], by rw [HTM.out]; exact HM.out, Nat.le_trans (Nat.le_of_lt HSUB.out) hAa, HN4.out, HB4.out⟩

end Go.Proofs.YtdlnnkbigeiilaaGreat

/- The document's powers. No condition. -/
namespace Go.Proofs.YtdlnnkbigeiilaaGreat
open Go.RowKit

def bitAt (n k : Nat) : Nat := n / 2 ^ k % 2
/-- The highest t of L bits, the highest first. -/
def bitsTo (n L t : Nat) : List Nat := (List.range t).map fun s => bitAt n (L - 1 - s)
theorem bitsTo_succ (n L t : Nat) : bitsTo n L (t + 1) = bitsTo n L t ++ [bitAt n (L - 1 - t)] := by simp [bitsTo, List.range_succ]
theorem bitsTo_at (n L t s : Nat) (h : s < t) : (bitsTo n L t)[s]? = some (bitAt n (L - 1 - s)) := by simp [bitsTo, h]

theorem bit_dg (n i j : Nat) (hj : j ≤ 15) : dg DD n i / 2 ^ (15 - j) % 2 = bitAt n (16 * i + (15 - j)) := by
  unfold dg bitAt
  have hb : DD = 2 ^ 16 := rfl
  rw [hb, ← Nat.pow_mul]
  have e : (2 : Nat) ^ 16 = 2 ^ (15 - j) * (2 * 2 ^ j) := by
    rw [← Nat.pow_succ', ← Nat.pow_add]; congr 1; omega
  rw [e, Nat.mod_mul_right_div_self, Nat.mod_mul_right_mod, Nat.div_div_eq_div_mul, ← Nat.pow_add]

structure OwnB (W w : World) (v : Value) (n L t : Nat) : Prop where
  own : w.ownsRow 0 3 1 v t ((bitsTo n L t).map dV)
  new_ : ∀ q, v.ownBlock = some q → W.heap.size ≤ q
  below : Below W.heap.size W w
theorem OwnB.nil (W : World) (n L : Nat) : OwnB W W (.slice none 0 0) n L 0 := ⟨World.ownsRow_nil _ _ _ _, fun q h => by simp [Value.ownBlock] at h, Below.refl _ _⟩
theorem OwnB.push {W w w1 : World} {v : Value} {n L k g c : Nat} (h : OwnB W w v n L k) (hown : w1.ownsRow 0 3 1 (.slice (some ⟨g, 0, none⟩) (k + 1) c) (k + 1) ((bitsTo n L k).map dV ++ [.int .i64 (bitAt n (L - 1 - k) : Int)])) (hp : Pushed w w1 v g) : OwnB W w1 (.slice (some ⟨g, 0, none⟩) (k + 1) c) n L (k + 1) :=
  ⟨by rw [bitsTo_succ, List.map_append]; exact hown, hp.from_ h.below.size h.new_, hp.below h.below h.below.size h.new_⟩

def BitsR (n : Nat) (w : World) (e : Ending) (w' : World) : Prop := ∃ a cap, e = .returned (.slice a (16 * dl n) cap) ∧ Sl w' w'.heap.size a ((bitsTo n (16 * dl n) (16 * dl n)).map dV) ∧ Below w.heap.size w w'


set_option maxHeartbeats 2000000 in
theorem refBits_any (n : Nat) (an : Option Addr) (cn : Nat) (hln : dl n ≤ 65536) (w : World) (hA : NumAt w an n) :
    Calls Tryz.prog 172 #[.slice an (dl n) cn] w (BitsR n w) := by
  obtain ⟨i0, hi, hz0, hz1, hz2⟩ := info_parts infoInt3
  have HA := Lib.hid hA
  clear hA
  go_enter Tryz.func172, Tryz.ntmps172
  go_wp2_with fail
  go_loopw [3, 4, 5] (fun u x _ wr => ∃ i : Nat, i ≤ dl n ∧ x = .int .i64 ((i : Int) - 1) ∧ Hid (OwnB w wr u n (16 * dl n) (16 * (dl n - i)))) (fun _ x _ _ => (intOf x + 1).toNat)
  case atStart => exact ⟨dl n, Nat.le_refl _, rfl, by rw [Nat.sub_self]; exact OwnB.nil w _ _⟩
  case round =>
    obtain ⟨i, hin, hxi, HO⟩ := hrel
    rcases Nat.eq_zero_or_pos i with rfl | hip
    · subst hxi
      rw [Nat.sub_zero] at HO
      go_wp2_with fail
      go_ret
      obtain ⟨a, c, rfl, _⟩ := own_form3 HO.out.own
      exact ⟨a, c, rfl, sl_of_own HO.out.own, HO.out.below⟩
    · obtain ⟨p, rfl⟩ : ∃ p, i = p + 1 := ⟨i - 1, by omega⟩
      have ei : ((p + 1 : Nat) : Int) - 1 = (p : Int) := by omega
      rw [ei] at hxi
      subst hxi
      clear ei hip
      obtain ⟨b1, o1, rfl, hb1, hcell1⟩ := HA.out.all (by omega)
      have hx1 := hcell1 p (by omega)
      have HX1 := Lib.hid hx1
      have hdp : dg DD n p < 65536 := dg_lt (B := DD) (by decide) _ _
      clear hcell1 hx1
      obtain ⟨W2, rfl⟩ : ∃ W2 : World, W2 = wr := ⟨_, rfl⟩
      go_wp2_with fail
      go_loopw [3, 5] (fun u x wr => ∃ j : Nat, j ≤ 16 ∧ x = .int .i64 (32768 / 2 ^ j : Nat) ∧ Hid (OwnB w wr u n (16 * dl n) (16 * (dl n - (p + 1)) + j))) (fun _ x _ => (intOf x).toNat)
      case atStart => exact ⟨0, Nat.zero_le _, rfl, HO.out⟩
      case round =>
        clear HO
        obtain ⟨j, hj, rfl, HO⟩ := hrel
        by_cases hjl : j < 16
        · have hP : 32768 / 2 ^ j = 2 ^ (15 - j) := by
            show 2 ^ 15 / 2 ^ j = _
            exact Nat.pow_div (by omega) (by omega)
          have hP2 : ((32768 / 2 ^ j : Nat) : Int) / 2 = ((32768 / 2 ^ (j + 1) : Nat) : Int) := by
            rw [Nat.pow_succ, ← Nat.div_div_eq_div_mul]; omega
          have hbit := bit_dg n p j (by omega)
          have hpos : 0 < 32768 / 2 ^ j := by rw [hP]; exact Nat.pow_pos (by omega)
          have hle : 32768 / 2 ^ j ≤ 32768 := Nat.div_le_self _ _
          have hdec : 32768 / 2 ^ (j + 1) < 32768 / 2 ^ j := by
            rw [Nat.pow_succ, ← Nat.div_div_eq_div_mul]; exact Nat.div_lt_self hpos (by decide)
          rw [← hP, show 16 * p + (15 - j) = 16 * dl n - 1 - (16 * (dl n - (p + 1)) + j) by omega] at hbit
          have hx1 : wr.cell? ⟨b1, o1 + p, none⟩ = some (.int .i64 (dg DD n p : Int)) := by rw [HO.out.below.cell (p := ⟨b1, o1 + p, none⟩) hb1]; exact HX1.out
          generalize dg DD n p = d at *
          generalize 32768 / 2 ^ j = P at *
          generalize hP1 : 32768 / 2 ^ (j + 1) = P1 at *
          have hq9 : (d : Int) / (P : Int) = ((d / P : Nat) : Int) := by simp
          have hx9l : d / P ≤ d := Nat.div_le_self _ _
          generalize hx9 : d / P = x9 at *
          have HX9 := Lib.hid hx9
          have hbI : (x9 : Int) % 2 = (bitAt n (16 * dl n - 1 - (16 * (dl n - (p + 1)) + j)) : Int) := by omega
          clear hx9
          have hHP := Lib.hid hP
          have HP1 := Lib.hid hP1
          generalize hT : 16 * (dl n - (p + 1)) + j = T at *
          have hTl : T ≤ 1048576 := by omega
          have HT := Lib.hid hT
          generalize hB : bitAt n (16 * dl n - 1 - T) = bb at *
          have HBB := Lib.hid hB
          clear hP hP1 hbit hT hB
          go_wp2_with (at_builtin; refine wpList_push wr rfl _ _ 83 rfl 3 i0 _ 1 8 Tryz.underlying83 hi hz0 hz1 hz2 rfl (by omega) u3 T ((bitsTo n (16 * dl n) T).map dV) rfl HO.out.own _ _ _ rfl rfl rfl (by simp [Value.oneCell']) (by omega) (by unfold maxLen; omega) ?_)
          intro g gc w1 hown hp
          have HO1 := Lib.hid (HO.out.push (by rw [HBB.out]; exact hown) hp)
          clear hown hp
          go_wp2_with fail
          go_roundw
          case rel => exact ⟨j + 1, by omega, by first | rw [hP2, HP1.out] | rw [HP1.out], by rw [← Nat.add_assoc, HT.out]; exact HO1.out⟩
          case measure => simp [intOf]; omega
        · have hj16 : j = 16 := by omega
          subst hj16
          have h0 : ((32768 / 2 ^ 16 : Nat) : Int) = 0 := by decide
          rw [h0]
          clear h0
          go_wp2_with fail
          go_roundw
          case rel => exact ⟨p, by omega, rfl, by rw [show 16 * (dl n - p) = 16 * (dl n - (p + 1)) + 16 by omega]; exact HO.out⟩
          case measure => first | (simp [intOf]; done) | (simp [intOf]; omega)

theorem lt32 (x y : Nat) (hx : x < DD ^ 16) (hy : y < DD ^ 16) : dl (x * y) ≤ 1048576 := by
  refine Nat.le_trans (dl_of_lt (x * y) 32 ?_) (by decide)
  have e : DD ^ 32 = DD ^ 16 * DD ^ 16 := by rw [← Nat.pow_add]
  rw [e]
  exact Nat.lt_of_le_of_lt (Nat.mul_le_mul_left _ (Nat.le_of_lt hy)) (Nat.mul_lt_mul_of_pos_right hx (Nat.pow_pos (by decide)))
theorem lt16 (x : Nat) (hx : x < DD ^ 16) : dl x ≤ 1048576 := small_dl x hx

theorem pow_sq (a e m : Nat) : (a ^ e % m * (a ^ e % m)) % m = a ^ (2 * e) % m := by
  rw [← Nat.mul_mod, ← Nat.pow_add, Nat.two_mul]
theorem pow_one_more (a e m : Nat) : (a ^ (2 * e) % m * a) % m = a ^ (2 * e + 1) % m := by
  rw [Nat.mod_mul_mod, ← Nat.pow_succ]
theorem dl_one_of (v : Nat) (h : dl v = 1) : dg DD v 0 = v := by
  have := lt_dl v
  rw [h, Nat.pow_one] at this
  unfold dg
  rw [Nat.pow_zero, Nat.div_one, Nat.mod_eq_of_lt this]



set_option maxHeartbeats 2000000 in
theorem refPower_any (a n m : Nat) (aa an am : Option Addr) (ca cn cm : Nat) (ha : a < DD ^ 16) (hn : dl n ≤ 65536) (hm1 : 1 < m) (hm2 : m < DD ^ 16) (w : World) (hA : NumAt w aa a) (hN : NumAt w an n) (hM : NumAt w am m) :
    Calls Tryz.prog 155 #[.slice aa (dl a) ca, .slice an (dl n) cn, .slice am (dl m) cm] w fun e w' => NumR w e w' (a ^ n % m) := by
  have HA := Lib.hid hA
  have HNN := Lib.hid hN
  have HMM := Lib.hid hM
  have HA16 := Lib.hid ha
  have HM16 := Lib.hid hm2
  have hmp : 0 < m := by omega
  clear hA hN hM ha hm2
  go_enter Tryz.func155, Tryz.ntmps155
  go_wp2_with fail
  refine (refOf_any 1 (by omega) w).mono ?_
  rintro e9 w1 ⟨a1, c1, rfl, hn1, hb1⟩
  have HN1 := Lib.hid hn1
  have HB1 := Lib.hid hb1
  clear hn1 hb1
  go_wp2_with fail
  refine (refBits_any n an cn hn w1 (HNN.out.up HB1.out)).mono ?_
  rintro e9 w2 ⟨ab, cb, rfl, hs2, hb2⟩
  have HS := Lib.hid hs2
  have HBS := Lib.hid hb2
  have HN2 := Lib.hid (HN1.out.up hb2)
  have HB2 := Lib.hid (below_up HB1.out hb2)
  have hL : 16 * dl n ≤ 1048576 := by omega
  have HL0 : Hid (n / 2 ^ (16 * dl n) = 0) := by
    have h := lt_dl n
    have hb : DD = 2 ^ 16 := rfl
    rw [hb, ← Nat.pow_mul] at h
    exact Nat.div_eq_of_lt h
  clear hs2 hb2 HN1 HB1
  have HA := Lib.hid (HA.out.up HB2.out)
  have HMM := Lib.hid (HMM.out.up HB2.out)
  generalize hLL : 16 * dl n = L at *
  clear hLL
  have hzw2 := HB2.out.size
  go_wp2_with fail
  go_loopw [7, 9, 14] (fun u _ x wr => ∃ (t v : Nat) (a1 : Option Addr) (c1 : Nat), t ≤ L ∧ x = .int .i64 t ∧ u = .slice a1 (dl v) c1 ∧ Hid (v = a ^ (n / 2 ^ (L - t)) % m) ∧ Hid (NumAt wr a1 v) ∧ Hid (Below w2.heap.size w2 wr)) (fun _ _ x _ => L - (intOf x).toNat)
  case atStart => exact ⟨0, 1, a1, c1, Nat.zero_le _, rfl, rfl, by show _ = _; rw [Nat.sub_zero, HL0.out, Nat.pow_zero, Nat.mod_eq_of_lt hm1], HN2.out, Below.refl _ _⟩
  case round =>
    clear HN2
    obtain ⟨t, v, a1, c1, ht, rfl, rfl, HV, HN, HBW⟩ := hrel
    have HB := HBW
    by_cases htl : t < L
    · obtain ⟨b3, o3, rfl, hb3, hc3⟩ := (HS.out.up HBW.out).at t (by simp [bitsTo]; omega)
      have hcell : wr.cell? ⟨b3, o3 + t, none⟩ = some (.int .i64 (bitAt n (L - 1 - t) : Int)) := by
        rw [hc3]
        simp [bitsTo, dV]
      have hbb : bitAt n (L - 1 - t) = 0 ∨ bitAt n (L - 1 - t) = 1 := by unfold bitAt; omega
      have he1 : n / 2 ^ (L - (t + 1)) = 2 * (n / 2 ^ (L - t)) + bitAt n (L - 1 - t) := by
        unfold bitAt
        rw [show L - t = L - 1 - t + 1 by omega, show L - (t + 1) = L - 1 - t by omega, Nat.pow_succ, ← Nat.div_div_eq_div_mul]
        omega
      have HE1 := Lib.hid he1
      clear hc3 he1
      generalize bitAt n (L - 1 - t) = bb at *
      generalize n / 2 ^ (L - t) = e at *
      obtain rfl := HV.out
      clear HV
      by_cases hv1 : a ^ e % m = 1
      · have hd1 : dl (a ^ e % m) = 1 := by rw [hv1]; rfl
        obtain ⟨b4, o4, rfl, hb4, hcell4⟩ := HN.out.all (by omega)
        have hx4 := hcell4 0 (by omega)
        rw [dl_one_of _ hd1, hv1, Nat.add_zero] at hx4
        have hne : ((dl (a ^ e % m) : Int) != 1) = false := by rw [hd1]; rfl
        have hdpos : (0 : Int) < (dl (a ^ e % m) : Int) := by omega
        have HNq : Hid (NumAt wr (some ⟨b4, o4, none⟩) (a ^ (2 * e) % m)) := by
          show NumAt _ _ _
          rw [← pow_sq, hv1, Nat.mul_one, Nat.mod_eq_of_lt hm1, ← hv1]
          exact HN.out
        have HDq : Hid (dl (a ^ e % m) = dl (a ^ (2 * e) % m)) := by
          show _ = _
          rw [← pow_sq, hv1, Nat.mul_one, Nat.mod_eq_of_lt hm1]
        clear hv1 hd1 hcell4
        rw [HDq.out] at hne hdpos ⊢
        clear HDq HN
        have HN := HNq
        clear HNq
        rcases hbb with hb0 | hb0
        · have hbf : ((bb : Int) == 1) = false := by rw [hb0]; rfl
          have HRES : Hid (a ^ (2 * e) % m = a ^ (2 * e + bb) % m) := by show _ = _; rw [hb0]; rfl
          clear hb0
          go_wp2_with fail
          go_roundw
          case rel => exact ⟨t + 1, a ^ (2 * e) % m, (some ⟨b4, o4, none⟩), c1, by omega, by go_num, rfl, by rw [HE1.out]; exact HRES.out, HN.out, HB.out⟩
          case measure => simp [intOf]; omega
        · have hbf : ((bb : Int) == 1) = true := by rw [hb0]; rfl
          have HRES : Hid (a ^ (2 * e + 1) % m = a ^ (2 * e + bb) % m) := by show _ = _; rw [hb0]
          clear hb0
          go_wp2_with fail
          refine (refTimes_any (a ^ (2 * e) % m) a (some ⟨b4, o4, none⟩) aa c1 ca (lt16 _ (Nat.lt_trans (Nat.mod_lt _ hmp) HM16.out)) (lt16 _ HA16.out) wr HN.out (HA.out.up HB.out)).mono ?_
          rintro e9 w7 ⟨a7, c7, rfl, hn7, hb7⟩
          have HN7 := Lib.hid hn7
          have HB7 := Lib.hid (below_up HB.out hb7)
          clear hn7 hb7
          go_wp2_with fail
          refine (refMod_any (a ^ (2 * e) % m * a) m a7 am c7 cm (lt32 _ _ (Nat.lt_trans (Nat.mod_lt _ hmp) HM16.out) HA16.out) hmp w7 HN7.out (HMM.out.up HB7.out)).mono ?_
          rintro e9 w8 ⟨a8, c8, rfl, hn8, hb8⟩
          rw [pow_one_more] at hn8 ⊢
          have HN8 := Lib.hid hn8
          have HB8 := Lib.hid (below_up HB7.out hb8)
          clear hn8 hb8
          go_wp2_with fail
          go_roundw
          case rel => exact ⟨t + 1, _, a8, c8, by omega, by go_num, rfl, by rw [HE1.out]; exact HRES.out, HN8.out, HB8.out⟩
          case measure => simp [intOf]; omega
      · by_cases hd1 : dl (a ^ e % m) = 1
        · obtain ⟨b4, o4, rfl, hb4, hcell4⟩ := HN.out.all (by omega)
          have hx4 := hcell4 0 (by omega)
          rw [dl_one_of _ hd1, Nat.add_zero] at hx4
          have hne : ((dl (a ^ e % m) : Int) != 1) = false := by rw [hd1]; rfl
          have hdpos : (0 : Int) < (dl (a ^ e % m) : Int) := by omega
          have hv2 : ((a : Int) ^ e % (m : Int) != 1) = true := by rw [bne_iff_ne]; intro h; apply hv1; exact_mod_cast h
          clear hcell4 hv1 hd1
          go_wp2_with fail
          refine (refTimes_any (a ^ e % m) (a ^ e % m) (some ⟨b4, o4, none⟩) (some ⟨b4, o4, none⟩) c1 c1 (lt16 _ (Nat.lt_trans (Nat.mod_lt _ hmp) HM16.out)) (lt16 _ (Nat.lt_trans (Nat.mod_lt _ hmp) HM16.out)) wr HN.out HN.out).mono ?_
          rintro e9 w4 ⟨a4, c4, rfl, hn4, hb4⟩
          have HN4 := Lib.hid hn4
          have HB4 := Lib.hid (below_up HB.out hb4)
          clear hn4 hb4
          go_wp2_with fail
          refine (refMod_any (a ^ e % m * (a ^ e % m)) m a4 am c4 cm (lt32 _ _ (Nat.lt_trans (Nat.mod_lt _ hmp) HM16.out) (Nat.lt_trans (Nat.mod_lt _ hmp) HM16.out)) hmp w4 HN4.out (HMM.out.up HB4.out)).mono ?_
          rintro e9 w5 ⟨a5, c5, rfl, hn5, hb5⟩
          rw [pow_sq] at hn5 ⊢
          have HN5 := Lib.hid hn5
          have HB5 := Lib.hid (below_up HB4.out hb5)
          clear hn5 hb5
          rcases hbb with hb0 | hb0
          · have hbf : ((bb : Int) == 1) = false := by rw [hb0]; rfl
            have HRES : Hid (a ^ (2 * e) % m = a ^ (2 * e + bb) % m) := by show _ = _; rw [hb0]; rfl
            clear hb0
            go_wp2_with fail
            go_roundw
            case rel => exact ⟨t + 1, a ^ (2 * e) % m, a5, c5, by omega, by go_num, rfl, by rw [HE1.out]; exact HRES.out, HN5.out, HB5.out⟩
            case measure => simp [intOf]; omega
          · have hbf : ((bb : Int) == 1) = true := by rw [hb0]; rfl
            have HRES : Hid (a ^ (2 * e + 1) % m = a ^ (2 * e + bb) % m) := by show _ = _; rw [hb0]
            clear hb0
            go_wp2_with fail
            refine (refTimes_any (a ^ (2 * e) % m) a a5 aa c5 ca (lt16 _ (Nat.lt_trans (Nat.mod_lt _ hmp) HM16.out)) (lt16 _ HA16.out) w5 HN5.out (HA.out.up HB5.out)).mono ?_
            rintro e9 w7 ⟨a7, c7, rfl, hn7, hb7⟩
            have HN7 := Lib.hid hn7
            have HB7 := Lib.hid (below_up HB5.out hb7)
            clear hn7 hb7
            go_wp2_with fail
            refine (refMod_any (a ^ (2 * e) % m * a) m a7 am c7 cm (lt32 _ _ (Nat.lt_trans (Nat.mod_lt _ hmp) HM16.out) HA16.out) hmp w7 HN7.out (HMM.out.up HB7.out)).mono ?_
            rintro e9 w8 ⟨a8, c8, rfl, hn8, hb8⟩
            rw [pow_one_more] at hn8 ⊢
            have HN8 := Lib.hid hn8
            have HB8 := Lib.hid (below_up HB7.out hb8)
            clear hn8 hb8
            go_wp2_with fail
            go_roundw
            case rel => exact ⟨t + 1, _, a8, c8, by omega, by go_num, rfl, by rw [HE1.out]; exact HRES.out, HN8.out, HB8.out⟩
            case measure => simp [intOf]; omega
        · have hne : ((dl (a ^ e % m) : Int) != 1) = true := by simp; omega
          clear hd1 hv1
          go_wp2_with fail
          refine (refTimes_any (a ^ e % m) (a ^ e % m) a1 a1 c1 c1 (lt16 _ (Nat.lt_trans (Nat.mod_lt _ hmp) HM16.out)) (lt16 _ (Nat.lt_trans (Nat.mod_lt _ hmp) HM16.out)) wr HN.out HN.out).mono ?_
          rintro e9 w4 ⟨a4, c4, rfl, hn4, hb4⟩
          have HN4 := Lib.hid hn4
          have HB4 := Lib.hid (below_up HB.out hb4)
          clear hn4 hb4
          go_wp2_with fail
          refine (refMod_any (a ^ e % m * (a ^ e % m)) m a4 am c4 cm (lt32 _ _ (Nat.lt_trans (Nat.mod_lt _ hmp) HM16.out) (Nat.lt_trans (Nat.mod_lt _ hmp) HM16.out)) hmp w4 HN4.out (HMM.out.up HB4.out)).mono ?_
          rintro e9 w5 ⟨a5, c5, rfl, hn5, hb5⟩
          rw [pow_sq] at hn5 ⊢
          have HN5 := Lib.hid hn5
          have HB5 := Lib.hid (below_up HB4.out hb5)
          clear hn5 hb5
          rcases hbb with hb0 | hb0
          · have hbf : ((bb : Int) == 1) = false := by rw [hb0]; rfl
            have HRES : Hid (a ^ (2 * e) % m = a ^ (2 * e + bb) % m) := by show _ = _; rw [hb0]; rfl
            clear hb0
            go_wp2_with fail
            go_roundw
            case rel => exact ⟨t + 1, a ^ (2 * e) % m, a5, c5, by omega, by go_num, rfl, by rw [HE1.out]; exact HRES.out, HN5.out, HB5.out⟩
            case measure => simp [intOf]; omega
          · have hbf : ((bb : Int) == 1) = true := by rw [hb0]; rfl
            have HRES : Hid (a ^ (2 * e + 1) % m = a ^ (2 * e + bb) % m) := by show _ = _; rw [hb0]
            clear hb0
            go_wp2_with fail
            refine (refTimes_any (a ^ (2 * e) % m) a a5 aa c5 ca (lt16 _ (Nat.lt_trans (Nat.mod_lt _ hmp) HM16.out)) (lt16 _ HA16.out) w5 HN5.out (HA.out.up HB5.out)).mono ?_
            rintro e9 w7 ⟨a7, c7, rfl, hn7, hb7⟩
            have HN7 := Lib.hid hn7
            have HB7 := Lib.hid (below_up HB5.out hb7)
            clear hn7 hb7
            go_wp2_with fail
            refine (refMod_any (a ^ (2 * e) % m * a) m a7 am c7 cm (lt32 _ _ (Nat.lt_trans (Nat.mod_lt _ hmp) HM16.out) HA16.out) hmp w7 HN7.out (HMM.out.up HB7.out)).mono ?_
            rintro e9 w8 ⟨a8, c8, rfl, hn8, hb8⟩
            rw [pow_one_more] at hn8 ⊢
            have HN8 := Lib.hid hn8
            have HB8 := Lib.hid (below_up HB7.out hb8)
            clear hn8 hb8
            go_wp2_with fail
            go_roundw
            case rel => exact ⟨t + 1, _, a8, c8, by omega, by go_num, rfl, by rw [HE1.out]; exact HRES.out, HN8.out, HB8.out⟩
            case measure => simp [intOf]; omega
    · have htL : t = L := by omega
      subst htL
      rw [Nat.sub_self, Nat.pow_zero, Nat.div_one] at HV
      obtain rfl := HV.out
      go_wp2_with fail
      go_ret
      exact ⟨a1, c1, rfl, HN.out, below_up HB2.out HBW.out⟩

end Go.Proofs.YtdlnnkbigeiilaaGreat

/- The document's scalars: Minus, Add, Sub, Mul. No condition. -/
namespace Go.Proofs.YtdlnnkbigeiilaaGreat
open Go.RowKit

/-- The document's group, as a value. -/
def gR (sz q p : Nat) (aq ap : Option Addr) (cq cp : Nat) : List Value := [.int .i64 (sz : Int), .slice aq (dl q) cq, .slice ap (dl p) cp]

theorem take_minus (a b R : Nat) (h : a = R + b) : a = R + 1 * (b * DD ^ 0) := by rw [Nat.pow_zero, Nat.mul_one, Nat.one_mul]; exact h

set_option maxRecDepth 100000 in
set_option maxHeartbeats 1000000 in
theorem refMinus_any (a b R : Nat) (aa ab : Option Addr) (ca cb : Nat) (hla : dl a ≤ 1048576) (hlb : dl b ≤ 1048576) (hR : a = R + b) (w : World) (hA : NumAt w aa a) (hB : NumAt w ab b) :
    Calls Tryz.prog 128 #[.slice aa (dl a) ca, .slice ab (dl b) cb] w fun e w' => NumR w e w' R := by
  have hT : Calls Tryz.prog 150 #[.slice aa (dl a) ca, .slice ab (dl b) cb, .int .i64 1, .int .i64 0] w fun e w' => NumR w e w' R := refTake_any a b 1 0 R aa ab ca cb hla hlb (by omega) (by omega) (take_minus a b R hR) w hA hB
  have HT := Lib.hid hT
  clear hT hR
  clear hA hB
  go_enter Tryz.func128, Tryz.ntmps128
  go_wp2_with fail
  refine HT.out.mono ?_
  rintro e w1 ⟨a1, c1, rfl, hn1, hb1⟩
  have HN1 := Lib.hid hn1
  have HB1 := Lib.hid hb1
  clear hn1 hb1
  go_wp2_with fail
  go_ret
  exact ⟨a1, c1, rfl, HN1.out, HB1.out⟩





theorem plus_dl (a b : Nat) (ha : a < DD ^ 16) (hb : b < DD ^ 16) : dl (a + b) ≤ 1048576 := by
  refine Nat.le_trans (dl_of_lt (a + b) 17 ?_) (by decide)
  have : DD ^ 17 = DD ^ 16 * 65536 := Nat.pow_succ ..
  omega

set_option maxRecDepth 100000 in
set_option maxHeartbeats 2000000 in
theorem refAdd_any (a b sz q p : Nat) (aa ab aq ap : Option Addr) (ca cb cq cp : Nat) (ha : a < DD ^ 16) (hb : b < DD ^ 16) (hq : 0 < q) (w : World) (hA : NumAt w aa a) (hB : NumAt w ab b) (hQ : NumAt w aq q) :
    Calls Tryz.prog 60 #[.agg #[.int .i64 (sz : Int), .slice aq (dl q) cq, .slice ap (dl p) cp], .slice aa (dl a) ca, .slice ab (dl b) cb] w fun e w' => NumR w e w' ((a + b) % q) := by
  have HA := Lib.hid hA
  have HBB := Lib.hid hB
  have HQ := Lib.hid hQ
  clear hA hB hQ
  go_enter Tryz.func60, Tryz.ntmps60
  have hzz : Bx (w.alloc (.cells #[.int .i64 (sz : Int), .slice aq (dl q) cq, .slice ap (dl p) cp] 86)) w.heap.size 86 (gR sz q p aq ap cq cp) := Bx.new w _ _ _ rfl
  have hbz : Below w.heap.size w (w.alloc (.cells #[.int .i64 (sz : Int), .slice aq (dl q) cq, .slice ap (dl p) cp] 86)) := (Below.refl w.heap.size w).alloc (Nat.le_refl _) _
  obtain ⟨W2, hW2⟩ : ∃ W9 : World, (w.alloc (.cells #[.int .i64 (sz : Int), .slice aq (dl q) cq, .slice ap (dl p) cp] 86)) = W9 := ⟨_, rfl⟩
  rw [hW2] at hzz hbz
  have HZ := Lib.hid hzz
  have HBZ := Lib.hid hbz
  have hz_0 := HZ.out.cell (i := 0) rfl
  have hz_1 := HZ.out.cell (i := 1) rfl
  have hz_2 := HZ.out.cell (i := 2) rfl
  have hzl := HZ.out.lt
  clear hzz hbz
  go_wp2_with fail
  have HW0 : Hid (Below W2.heap.size W2 W2.drew) := (Below.refl _ _).drew
  refine wp_region_tree (fun w' => ∃ E : Over W2, w' = E.w) (.qs [0, 1, 3, 4] (.a 2 (.a 5 (.q 6 .done)))) (by kernel_rfl) (by kernel_rfl) (fun _ _ d _ _ h => by cases d <;> exact h) ⟨⟨_, HW0.out⟩, rfl⟩ ?_
  have hov := fun (E : Over W2) o => E.cell (b := w.heap.size) o hzl
  simp only [Tree.qs]
  repeat (refine tree_q rfl rfl ?_; go_big_quiet_step (fail); refine wpQuiet_nil ?_)
  refine tree_a rfl (fun K hK => ?_)
  go_simp
  refine (refPlus_any a b aa ab ca cb (small_dl a ha) (small_dl b hb) _ (HA.out.up (below_up HBZ.out HW0.out)) (HBB.out.up (below_up HBZ.out HW0.out))).mono ?_
  rintro e w4 ⟨a4, c4, rfl, hn9, hb9⟩
  have HN4 := Lib.hid hn9
  have HW4 := Lib.hid (below_up HW0.out hb9)
  clear hn9 hb9
  refine hK _ _ ⟨⟨⟨w4, HW4.out⟩, rfl⟩, ?_⟩
  clear hK K
  refine tree_a rfl (fun K hK => ?_)
  go_simp
  refine (refMod_any (a + b) q a4 aq c4 cq (plus_dl a b ha hb) hq w4 HN4.out (HQ.out.up (below_up HBZ.out HW4.out))).mono ?_
  rintro e w5 ⟨a5, c5, rfl, hn9, hb9⟩
  have HN5 := Lib.hid hn9
  have HW5 := Lib.hid (below_up HW4.out hb9)
  clear hn9 hb9
  refine hK _ _ ⟨⟨⟨w5, HW5.out⟩, rfl⟩, ?_⟩
  clear hK K
  refine tree_q rfl rfl ?_
  go_big_quiet_step (fail)
  refine wpQuiet_nil ?_
  refine tree_end ?_
  have HF := Lib.hid (below_up HBZ.out HW5.out)
  clear hov
  go_wp2_with fail
  go_ret
  exact ⟨a5, c5, rfl, HN5.out, HF.out⟩

set_option maxRecDepth 100000 in
set_option maxHeartbeats 2000000 in
theorem refMul_any (a b sz q p : Nat) (aa ab aq ap : Option Addr) (ca cb cq cp : Nat) (ha : a < DD ^ 16) (hb : b < DD ^ 16) (hq : 0 < q) (w : World) (hA : NumAt w aa a) (hB : NumAt w ab b) (hQ : NumAt w aq q) :
    Calls Tryz.prog 126 #[.agg #[.int .i64 (sz : Int), .slice aq (dl q) cq, .slice ap (dl p) cp], .slice aa (dl a) ca, .slice ab (dl b) cb] w fun e w' => NumR w e w' (a * b % q) := by
  have HA := Lib.hid hA
  have HBB := Lib.hid hB
  have HQ := Lib.hid hQ
  clear hA hB hQ
  go_enter Tryz.func126, Tryz.ntmps126
  have hzz : Bx (w.alloc (.cells #[.int .i64 (sz : Int), .slice aq (dl q) cq, .slice ap (dl p) cp] 86)) w.heap.size 86 (gR sz q p aq ap cq cp) := Bx.new w _ _ _ rfl
  have hbz : Below w.heap.size w (w.alloc (.cells #[.int .i64 (sz : Int), .slice aq (dl q) cq, .slice ap (dl p) cp] 86)) := (Below.refl w.heap.size w).alloc (Nat.le_refl _) _
  obtain ⟨W2, hW2⟩ : ∃ W9 : World, (w.alloc (.cells #[.int .i64 (sz : Int), .slice aq (dl q) cq, .slice ap (dl p) cp] 86)) = W9 := ⟨_, rfl⟩
  rw [hW2] at hzz hbz
  have HZ := Lib.hid hzz
  have HBZ := Lib.hid hbz
  have hz_0 := HZ.out.cell (i := 0) rfl
  have hz_1 := HZ.out.cell (i := 1) rfl
  have hz_2 := HZ.out.cell (i := 2) rfl
  have hzl := HZ.out.lt
  clear hzz hbz
  go_wp2_with fail
  have HW0 : Hid (Below W2.heap.size W2 W2.drew) := (Below.refl _ _).drew
  refine wp_region_tree (fun w' => ∃ E : Over W2, w' = E.w) (.qs [0, 1, 3, 4] (.a 2 (.a 5 (.q 6 .done)))) (by kernel_rfl) (by kernel_rfl) (fun _ _ d _ _ h => by cases d <;> exact h) ⟨⟨_, HW0.out⟩, rfl⟩ ?_
  have hov := fun (E : Over W2) o => E.cell (b := w.heap.size) o hzl
  simp only [Tree.qs]
  repeat (refine tree_q rfl rfl ?_; go_big_quiet_step (fail); refine wpQuiet_nil ?_)
  refine tree_a rfl (fun K hK => ?_)
  go_simp
  refine (refTimes_any a b aa ab ca cb (small_dl a ha) (small_dl b hb) _ (HA.out.up (below_up HBZ.out HW0.out)) (HBB.out.up (below_up HBZ.out HW0.out))).mono ?_
  rintro e w4 ⟨a4, c4, rfl, hn9, hb9⟩
  have HN4 := Lib.hid hn9
  have HW4 := Lib.hid (below_up HW0.out hb9)
  clear hn9 hb9
  refine hK _ _ ⟨⟨⟨w4, HW4.out⟩, rfl⟩, ?_⟩
  clear hK K
  refine tree_a rfl (fun K hK => ?_)
  go_simp
  refine (refMod_any (a * b) q a4 aq c4 cq (lt32 a b ha hb) hq w4 HN4.out (HQ.out.up (below_up HBZ.out HW4.out))).mono ?_
  rintro e w5 ⟨a5, c5, rfl, hn9, hb9⟩
  have HN5 := Lib.hid hn9
  have HW5 := Lib.hid (below_up HW4.out hb9)
  clear hn9 hb9
  refine hK _ _ ⟨⟨⟨w5, HW5.out⟩, rfl⟩, ?_⟩
  clear hK K
  refine tree_q rfl rfl ?_
  go_big_quiet_step (fail)
  refine wpQuiet_nil ?_
  refine tree_end ?_
  have HF := Lib.hid (below_up HBZ.out HW5.out)
  clear hov
  go_wp2_with fail
  go_ret
  exact ⟨a5, c5, rfl, HN5.out, HF.out⟩

set_option maxRecDepth 100000 in
set_option maxHeartbeats 2000000 in
theorem refSub_any (a b sz q p : Nat) (aa ab aq ap : Option Addr) (ca cb cq cp : Nat) (ha : a < DD ^ 16) (hb : b ≤ q) (hq : 0 < q) (hq2 : q < DD ^ 16) (w : World) (hA : NumAt w aa a) (hB : NumAt w ab b) (hQ : NumAt w aq q) :
    Calls Tryz.prog 77 #[.agg #[.int .i64 (sz : Int), .slice aq (dl q) cq, .slice ap (dl p) cp], .slice aa (dl a) ca, .slice ab (dl b) cb] w fun e w' => NumR w e w' ((a + q - b) % q) := by
  have hb2 : b < DD ^ 16 := Nat.lt_of_le_of_lt hb hq2
  have HA := Lib.hid hA
  have HBB := Lib.hid hB
  have HQ := Lib.hid hQ
  clear hA hB hQ
  go_enter Tryz.func77, Tryz.ntmps77
  have hzz : Bx (w.alloc (.cells #[.int .i64 (sz : Int), .slice aq (dl q) cq, .slice ap (dl p) cp] 86)) w.heap.size 86 (gR sz q p aq ap cq cp) := Bx.new w _ _ _ rfl
  have hbz : Below w.heap.size w (w.alloc (.cells #[.int .i64 (sz : Int), .slice aq (dl q) cq, .slice ap (dl p) cp] 86)) := (Below.refl w.heap.size w).alloc (Nat.le_refl _) _
  obtain ⟨W2, hW2⟩ : ∃ W9 : World, (w.alloc (.cells #[.int .i64 (sz : Int), .slice aq (dl q) cq, .slice ap (dl p) cp] 86)) = W9 := ⟨_, rfl⟩
  rw [hW2] at hzz hbz
  have HZ := Lib.hid hzz
  have HBZ := Lib.hid hbz
  have hz_0 := HZ.out.cell (i := 0) rfl
  have hz_1 := HZ.out.cell (i := 1) rfl
  have hz_2 := HZ.out.cell (i := 2) rfl
  have hzl := HZ.out.lt
  clear hzz hbz
  go_wp2_with fail
  have HW0 : Hid (Below W2.heap.size W2 W2.drew) := (Below.refl _ _).drew
  refine wp_region_tree (fun w' => ∃ E : Over W2, w' = E.w) (.qs [0, 1, 2, 4, 6, 7] (.a 3 (.a 5 (.a 8 (.q 9 .done))))) (by kernel_rfl) (by kernel_rfl) (fun _ _ d _ _ h => by cases d <;> exact h) ⟨⟨_, HW0.out⟩, rfl⟩ ?_
  have hov := fun (E : Over W2) o => E.cell (b := w.heap.size) o hzl
  simp only [Tree.qs]
  repeat (refine tree_q rfl rfl ?_; go_big_quiet_step (fail); refine wpQuiet_nil ?_)
  refine tree_a rfl (fun K hK => ?_)
  go_simp
  refine (refPlus_any a q aa aq ca cq (small_dl a ha) (small_dl q hq2) _ (HA.out.up (below_up HBZ.out HW0.out)) (HQ.out.up (below_up HBZ.out HW0.out))).mono ?_
  rintro e w4 ⟨a4, c4, rfl, hn9, hb9⟩
  have HN4 := Lib.hid hn9
  have HW4 := Lib.hid (below_up HW0.out hb9)
  clear hn9 hb9
  refine hK _ _ ⟨⟨⟨w4, HW4.out⟩, rfl⟩, ?_⟩
  clear hK K
  refine tree_a rfl (fun K hK => ?_)
  go_simp
  refine (refMinus_any (a + q) b (a + q - b) a4 ab c4 cb (plus_dl a q ha hq2) (small_dl b hb2) (by omega) w4 HN4.out (HBB.out.up (below_up HBZ.out HW4.out))).mono ?_
  rintro e w5 ⟨a5, c5, rfl, hn9, hb9⟩
  have HN5 := Lib.hid hn9
  have HW5 := Lib.hid (below_up HW4.out hb9)
  clear hn9 hb9
  refine hK _ _ ⟨⟨⟨w5, HW5.out⟩, rfl⟩, ?_⟩
  clear hK K
  refine tree_a rfl (fun K hK => ?_)
  go_simp
  refine (refMod_any (a + q - b) q a5 aq c5 cq (Nat.le_trans (dl_mono _ _ (Nat.sub_le _ _)) (plus_dl a q ha hq2)) hq w5 HN5.out (HQ.out.up (below_up HBZ.out HW5.out))).mono ?_
  rintro e w6 ⟨a6, c6, rfl, hn9, hb9⟩
  have HN6 := Lib.hid hn9
  have HW6 := Lib.hid (below_up HW5.out hb9)
  clear hn9 hb9
  refine hK _ _ ⟨⟨⟨w6, HW6.out⟩, rfl⟩, ?_⟩
  clear hK K
  refine tree_q rfl rfl ?_
  go_big_quiet_step (fail)
  refine wpQuiet_nil ?_
  refine tree_end ?_
  have HF := Lib.hid (below_up HBZ.out HW6.out)
  clear hov
  go_wp2_with fail
  go_ret
  exact ⟨a6, c6, rfl, HN6.out, HF.out⟩

end Go.Proofs.YtdlnnkbigeiilaaGreat

/- The document's elements: low, Product, Power, Under, Inv. No condition. -/
namespace Go.Proofs.YtdlnnkbigeiilaaGreat
open Go.RowKit

def lowR (q p x : Nat) : Nat := if q < x then p - x else x





set_option maxRecDepth 100000 in
set_option maxHeartbeats 2000000 in
theorem refLow_any (x sz q p : Nat) (ax aq ap : Option Addr) (cx cq cp : Nat) (hx : x ≤ p) (hp : p < DD ^ 16) (w : World) (hX : NumAt w ax x) (hQ : NumAt w aq q) (hP : NumAt w ap p) :
    Calls Tryz.prog 153 #[.agg #[.int .i64 (sz : Int), .slice aq (dl q) cq, .slice ap (dl p) cp], .slice ax (dl x) cx] w fun e w' => NumR w e w' (lowR q p x) := by
  have hx2 : x < DD ^ 16 := Nat.lt_of_le_of_lt hx hp
  have HX := Lib.hid hX
  have HQ := Lib.hid hQ
  have HP := Lib.hid hP
  clear hX hQ hP
  go_enter Tryz.func153, Tryz.ntmps153
  have hzz : Bx (w.alloc (.cells #[.int .i64 (sz : Int), .slice aq (dl q) cq, .slice ap (dl p) cp] 86)) w.heap.size 86 (gR sz q p aq ap cq cp) := Bx.new w _ _ _ rfl
  have hbz : Below w.heap.size w (w.alloc (.cells #[.int .i64 (sz : Int), .slice aq (dl q) cq, .slice ap (dl p) cp] 86)) := (Below.refl w.heap.size w).alloc (Nat.le_refl _) _
  obtain ⟨W2, hW2⟩ : ∃ W9 : World, (w.alloc (.cells #[.int .i64 (sz : Int), .slice aq (dl q) cq, .slice ap (dl p) cp] 86)) = W9 := ⟨_, rfl⟩
  rw [hW2] at hzz hbz
  have HZ := Lib.hid hzz
  have HBZ := Lib.hid hbz
  have hz_0 := HZ.out.cell (i := 0) rfl
  have hz_1 := HZ.out.cell (i := 1) rfl
  have hz_2 := HZ.out.cell (i := 2) rfl
  have hzl := HZ.out.lt
  clear hzz hbz
  go_wp2_with fail
  refine (refCompare_any x q ax aq cx cq (small_dl x hx2) W2 (HX.out.up HBZ.out) (HQ.out.up HBZ.out)).mono ?_
  rintro e w3 ⟨rfl, hb3⟩
  have HB3 := Lib.hid (below_up HBZ.out hb3)
  have HZ3 := Lib.hid (HZ.out.up hb3)
  clear hb3 hz_0 hz_1 hz_2 hzl HZ
  have hz_2 := HZ3.out.cell (i := 2) rfl
  by_cases hlow : q < x
  · have HCI : Hid (cmpI x q = 1) := by show _ = _; unfold cmpI; rw [if_neg (by omega), if_pos hlow]
    have HL : Hid (p - x = lowR q p x) := by show _ = _; unfold lowR; rw [if_pos hlow]
    rw [HCI.out]
    go_wp2_with fail
    refine (refMinus_any p x (p - x) ap ax cp cx (small_dl p hp) (small_dl x hx2) (by omega) w3 (HP.out.up HB3.out) (HX.out.up HB3.out)).mono ?_
    rintro e w4 ⟨a4, c4, rfl, hn4, hb4⟩
    rw [HL.out] at hn4 ⊢
    have HN4 := Lib.hid hn4
    have HB4 := Lib.hid (below_up HB3.out hb4)
    clear hn4 hb4
    go_wp2_with fail
    go_ret
    exact ⟨a4, c4, rfl, HN4.out, HB4.out⟩
  · have HL : Hid (x = lowR q p x) := by show _ = _; unfold lowR; rw [if_neg hlow]
    have hci : (decide (cmpI x q > 0)) = false := by unfold cmpI; simp only [decide_eq_false_iff_not]; split <;> simp <;> omega
    generalize cmpI x q = ci at *
    go_wp2_with fail
    go_ret
    exact ⟨ax, cx, by rw [← HL.out]; rfl, by rw [← HL.out]; exact HX.out.up HB3.out, HB3.out⟩

theorem lowR_le (q p x : Nat) (h : x ≤ p) : lowR q p x ≤ p := by unfold lowR; split <;> omega

set_option maxRecDepth 100000 in
set_option maxHeartbeats 2000000 in
theorem refProduct_any (a b sz q p : Nat) (aa ab aq ap : Option Addr) (ca cb cq cp : Nat) (ha : a < DD ^ 16) (hb : b < DD ^ 16) (hp0 : 0 < p) (hp : p < DD ^ 16) (w : World) (hA : NumAt w aa a) (hB : NumAt w ab b) (hQ : NumAt w aq q) (hP : NumAt w ap p) :
    Calls Tryz.prog 116 #[.agg #[.int .i64 (sz : Int), .slice aq (dl q) cq, .slice ap (dl p) cp], .slice aa (dl a) ca, .slice ab (dl b) cb] w fun e w' => NumR w e w' (lowR q p (a * b % p)) := by
  have HA := Lib.hid hA
  have HBB := Lib.hid hB
  have HQ := Lib.hid hQ
  have HP := Lib.hid hP
  clear hA hB hQ hP
  go_enter Tryz.func116, Tryz.ntmps116
  have hzz : Bx (w.alloc (.cells #[.int .i64 (sz : Int), .slice aq (dl q) cq, .slice ap (dl p) cp] 86)) w.heap.size 86 (gR sz q p aq ap cq cp) := Bx.new w _ _ _ rfl
  have hbz : Below w.heap.size w (w.alloc (.cells #[.int .i64 (sz : Int), .slice aq (dl q) cq, .slice ap (dl p) cp] 86)) := (Below.refl w.heap.size w).alloc (Nat.le_refl _) _
  obtain ⟨W2, hW2⟩ : ∃ W9 : World, (w.alloc (.cells #[.int .i64 (sz : Int), .slice aq (dl q) cq, .slice ap (dl p) cp] 86)) = W9 := ⟨_, rfl⟩
  rw [hW2] at hzz hbz
  have HZ := Lib.hid hzz
  have HBZ := Lib.hid hbz
  have hz_0 := HZ.out.cell (i := 0) rfl
  have hz_1 := HZ.out.cell (i := 1) rfl
  have hz_2 := HZ.out.cell (i := 2) rfl
  have hzl := HZ.out.lt
  clear hzz hbz
  go_wp2_with fail
  have HW0 : Hid (Below W2.heap.size W2 W2.drew) := (Below.refl _ _).drew
  refine wp_region_tree (fun w' => ∃ E : Over W2, w' = E.w) (.qs [0, 1, 2, 4, 5] (.a 3 (.a 6 (.a 7 (.q 8 .done))))) (by kernel_rfl) (by kernel_rfl) (fun _ _ d _ _ h => by cases d <;> exact h) ⟨⟨_, HW0.out⟩, rfl⟩ ?_
  have hov := fun (E : Over W2) o => E.cell (b := w.heap.size) o hzl
  simp only [Tree.qs]
  repeat (refine tree_q rfl rfl ?_; go_big_quiet_step (fail); refine wpQuiet_nil ?_)
  refine tree_a rfl (fun K hK => ?_)
  go_simp
  refine (refTimes_any a b aa ab ca cb (small_dl a ha) (small_dl b hb) _ (HA.out.up (below_up HBZ.out HW0.out)) (HBB.out.up (below_up HBZ.out HW0.out))).mono ?_
  rintro e w4 ⟨a4, c4, rfl, hn9, hb9⟩
  have HN4 := Lib.hid hn9
  have HW4 := Lib.hid (below_up HW0.out hb9)
  clear hn9 hb9
  refine hK _ _ ⟨⟨⟨w4, HW4.out⟩, rfl⟩, ?_⟩
  clear hK K
  refine tree_a rfl (fun K hK => ?_)
  go_simp
  refine (refMod_any (a * b) p a4 ap c4 cp (lt32 a b ha hb) hp0 w4 HN4.out (HP.out.up (below_up HBZ.out HW4.out))).mono ?_
  rintro e w5 ⟨a5, c5, rfl, hn9, hb9⟩
  have HN5 := Lib.hid hn9
  have HW5 := Lib.hid (below_up HW4.out hb9)
  clear hn9 hb9
  refine hK _ _ ⟨⟨⟨w5, HW5.out⟩, rfl⟩, ?_⟩
  clear hK K
  refine tree_a rfl (fun K hK => ?_)
  go_simp
  refine (refLow_any (a * b % p) sz q p a5 aq ap c5 cq cp (Nat.le_of_lt (Nat.mod_lt _ hp0)) hp w5 HN5.out (HQ.out.up (below_up HBZ.out HW5.out)) (HP.out.up (below_up HBZ.out HW5.out))).mono ?_
  rintro e w6 ⟨a6, c6, rfl, hn9, hb9⟩
  have HN6 := Lib.hid hn9
  have HW6 := Lib.hid (below_up HW5.out hb9)
  clear hn9 hb9
  refine hK _ _ ⟨⟨⟨w6, HW6.out⟩, rfl⟩, ?_⟩
  clear hK K
  refine tree_q rfl rfl ?_
  go_big_quiet_step (fail)
  refine wpQuiet_nil ?_
  refine tree_end ?_
  have HF := Lib.hid (below_up HBZ.out HW6.out)
  clear hov
  go_wp2_with fail
  go_ret
  exact ⟨a6, c6, rfl, HN6.out, HF.out⟩

set_option maxRecDepth 100000 in
set_option maxHeartbeats 2000000 in
theorem refPow_any (a n sz q p : Nat) (aa an aq ap : Option Addr) (ca cn cq cp : Nat) (ha : a < DD ^ 16) (hn : dl n ≤ 65536) (hp0 : 1 < p) (hp : p < DD ^ 16) (w : World) (hA : NumAt w aa a) (hN : NumAt w an n) (hQ : NumAt w aq q) (hP : NumAt w ap p) :
    Calls Tryz.prog 131 #[.agg #[.int .i64 (sz : Int), .slice aq (dl q) cq, .slice ap (dl p) cp], .slice aa (dl a) ca, .slice an (dl n) cn] w fun e w' => NumR w e w' (lowR q p (a ^ n % p)) := by
  have HA := Lib.hid hA
  have HNN := Lib.hid hN
  have HQ := Lib.hid hQ
  have HP := Lib.hid hP
  clear hA hN hQ hP
  go_enter Tryz.func131, Tryz.ntmps131
  have hzz : Bx (w.alloc (.cells #[.int .i64 (sz : Int), .slice aq (dl q) cq, .slice ap (dl p) cp] 86)) w.heap.size 86 (gR sz q p aq ap cq cp) := Bx.new w _ _ _ rfl
  have hbz : Below w.heap.size w (w.alloc (.cells #[.int .i64 (sz : Int), .slice aq (dl q) cq, .slice ap (dl p) cp] 86)) := (Below.refl w.heap.size w).alloc (Nat.le_refl _) _
  obtain ⟨W2, hW2⟩ : ∃ W9 : World, (w.alloc (.cells #[.int .i64 (sz : Int), .slice aq (dl q) cq, .slice ap (dl p) cp] 86)) = W9 := ⟨_, rfl⟩
  rw [hW2] at hzz hbz
  have HZ := Lib.hid hzz
  have HBZ := Lib.hid hbz
  have hz_0 := HZ.out.cell (i := 0) rfl
  have hz_1 := HZ.out.cell (i := 1) rfl
  have hz_2 := HZ.out.cell (i := 2) rfl
  have hzl := HZ.out.lt
  clear hzz hbz
  go_wp2_with fail
  have HW0 : Hid (Below W2.heap.size W2 W2.drew) := (Below.refl _ _).drew
  refine wp_region_tree (fun w' => ∃ E : Over W2, w' = E.w) (.qs [0, 1, 2, 3, 4] (.a 5 (.a 6 (.q 7 .done)))) (by kernel_rfl) (by kernel_rfl) (fun _ _ d _ _ h => by cases d <;> exact h) ⟨⟨_, HW0.out⟩, rfl⟩ ?_
  have hov := fun (E : Over W2) o => E.cell (b := w.heap.size) o hzl
  simp only [Tree.qs]
  repeat (refine tree_q rfl rfl ?_; go_big_quiet_step (fail); refine wpQuiet_nil ?_)
  refine tree_a rfl (fun K hK => ?_)
  go_simp
  refine (refPower_any a n p aa an ap ca cn cp ha hn hp0 hp _ (HA.out.up (below_up HBZ.out HW0.out)) (HNN.out.up (below_up HBZ.out HW0.out)) (HP.out.up (below_up HBZ.out HW0.out))).mono ?_
  rintro e w4 ⟨a4, c4, rfl, hn9, hb9⟩
  have HN4 := Lib.hid hn9
  have HW4 := Lib.hid (below_up HW0.out hb9)
  clear hn9 hb9
  refine hK _ _ ⟨⟨⟨w4, HW4.out⟩, rfl⟩, ?_⟩
  clear hK K
  refine tree_a rfl (fun K hK => ?_)
  go_simp
  refine (refLow_any (a ^ n % p) sz q p a4 aq ap c4 cq cp (Nat.le_of_lt (Nat.mod_lt _ (by omega))) hp w4 HN4.out (HQ.out.up (below_up HBZ.out HW4.out)) (HP.out.up (below_up HBZ.out HW4.out))).mono ?_
  rintro e w5 ⟨a5, c5, rfl, hn9, hb9⟩
  have HN5 := Lib.hid hn9
  have HW5 := Lib.hid (below_up HW4.out hb9)
  clear hn9 hb9
  refine hK _ _ ⟨⟨⟨w5, HW5.out⟩, rfl⟩, ?_⟩
  clear hK K
  refine tree_q rfl rfl ?_
  go_big_quiet_step (fail)
  refine wpQuiet_nil ?_
  refine tree_end ?_
  have HF := Lib.hid (below_up HBZ.out HW5.out)
  clear hov
  go_wp2_with fail
  go_ret
  exact ⟨a5, c5, rfl, HN5.out, HF.out⟩

end Go.Proofs.YtdlnnkbigeiilaaGreat

/- The document's IsScalar, IsElem, Number. No condition. -/
namespace Go.Proofs.YtdlnnkbigeiilaaGreat
open Go.RowKit






def isSc (q sz : Nat) (s : ByteArray) : Bool := decide (s.size = sz) && decide (numOf s < q)
def isEl (q sz : Nat) (s : ByteArray) : Bool := decide (s.size = sz) && decide (0 < numOf s) && decide (numOf s ≤ q)

theorem cmpI_lt (a b : Nat) : decide (cmpI a b < 0) = decide (a < b) := by unfold cmpI; split; · simp [*]
                                                                           · split <;> simp <;> omega
theorem cmpI_le (a b : Nat) : decide (cmpI a b ≤ 0) = decide (a ≤ b) := by
  unfold cmpI
  split
  · simp; omega
  · split <;> simp <;> omega
theorem numOf_16 (s : ByteArray) (hs : s.size ≤ 32) : numOf s < DD ^ 16 := numOf_lt s hs

set_option maxRecDepth 100000 in
set_option maxHeartbeats 2000000 in
theorem refIsScalar_any (s : ByteArray) (sz q p : Nat) (aq ap : Option Addr) (cq cp : Nat) (hsz : sz ≤ 32) (w : World) (hQ : NumAt w aq q) :
    Calls Tryz.prog 58 #[.agg #[.int .i64 (sz : Int), .slice aq (dl q) cq, .slice ap (dl p) cp], .string s] w fun e w' => e = .returned (.bool (isSc q sz s)) ∧ Below w.heap.size w w' := by
  have HQ := Lib.hid hQ
  clear hQ
  by_cases hl : s.size = sz
  · have HR : Hid (isSc q sz s = decide (numOf s < q)) := by show _ = _; unfold isSc; simp [hl]
    have hn := numOf_16 s (by omega)
    have hd : ((s.size : Int) == (sz : Int)) = true := by rw [hl]; simp
    have hss : s.size ≤ 1048576 := by omega
    clear hl
    go_enter Tryz.func58, Tryz.ntmps58
    have hzz : Bx (w.alloc (.cells #[.int .i64 (sz : Int), .slice aq (dl q) cq, .slice ap (dl p) cp] 86)) w.heap.size 86 (gR sz q p aq ap cq cp) := Bx.new w _ _ _ rfl
    have hbz : Below w.heap.size w (w.alloc (.cells #[.int .i64 (sz : Int), .slice aq (dl q) cq, .slice ap (dl p) cp] 86)) := (Below.refl w.heap.size w).alloc (Nat.le_refl _) _
    obtain ⟨W2, hW2⟩ : ∃ W9 : World, (w.alloc (.cells #[.int .i64 (sz : Int), .slice aq (dl q) cq, .slice ap (dl p) cp] 86)) = W9 := ⟨_, rfl⟩
    rw [hW2] at hzz hbz
    have HZ := Lib.hid hzz
    have HBZ := Lib.hid hbz
    have hz_0 := HZ.out.cell (i := 0) rfl
    have hz_1 := HZ.out.cell (i := 1) rfl
    have hz_2 := HZ.out.cell (i := 2) rfl
    have hzl := HZ.out.lt
    clear hzz hbz
    go_wp2_with fail
    have HW0 : Hid (Below W2.heap.size W2 W2.drew) := (Below.refl _ _).drew
    refine wp_region_tree (fun w' => ∃ E : Over W2, w' = E.w) (.qs [0, 1, 2, 3, 4, 5, 6, 8, 9] (.a 7 (.a 10 (.q 11 (.q 12 (.q 13 .done)))))) (by kernel_rfl) (by kernel_rfl) (fun _ _ d _ _ h => by cases d <;> exact h) ⟨⟨_, HW0.out⟩, rfl⟩ ?_
    have hov := fun (E : Over W2) o => E.cell (b := w.heap.size) o hzl
    simp only [Tree.qs]
    repeat (refine tree_q rfl rfl ?_; go_big_quiet_step (fail); refine wpQuiet_nil ?_)
    refine tree_a rfl (fun K hK => ?_)
    go_simp
    refine (refRead_any s hss _).mono ?_
    rintro e w4 ⟨a4, c4, rfl, hn9, hb9⟩
    have HN4 := Lib.hid hn9
    have HW4 := Lib.hid (below_up HW0.out hb9)
    clear hn9 hb9
    refine hK _ _ ⟨⟨⟨w4, HW4.out⟩, rfl⟩, ?_⟩
    clear hK K
    refine tree_a rfl (fun K hK => ?_)
    go_simp
    refine (refCompare_any (numOf s) q a4 aq c4 cq (small_dl _ hn) w4 HN4.out (HQ.out.up (below_up HBZ.out HW4.out))).mono ?_
    rintro e w5 ⟨rfl, hb9⟩
    have HW5 := Lib.hid (below_up HW4.out hb9)
    clear hb9
    refine hK _ _ ⟨⟨⟨w5, HW5.out⟩, rfl⟩, ?_⟩
    clear hK K
    repeat (refine tree_q rfl rfl ?_; go_big_quiet_step (fail); refine wpQuiet_nil ?_)
    refine tree_end ?_
    have HF := Lib.hid (below_up HBZ.out HW5.out)
    clear hov
    go_wp2_with fail
    go_ret
    exact ⟨by rw [HR.out, ← cmpI_lt]; rfl, HF.out⟩
  · have HR : Hid (isSc q sz s = false) := by show _ = _; unfold isSc; simp [hl]
    have hd : ((s.size : Int) == (sz : Int)) = false := by simp; omega
    clear hl
    go_enter Tryz.func58, Tryz.ntmps58
    have hzz : Bx (w.alloc (.cells #[.int .i64 (sz : Int), .slice aq (dl q) cq, .slice ap (dl p) cp] 86)) w.heap.size 86 (gR sz q p aq ap cq cp) := Bx.new w _ _ _ rfl
    have hbz : Below w.heap.size w (w.alloc (.cells #[.int .i64 (sz : Int), .slice aq (dl q) cq, .slice ap (dl p) cp] 86)) := (Below.refl w.heap.size w).alloc (Nat.le_refl _) _
    obtain ⟨W2, hW2⟩ : ∃ W9 : World, (w.alloc (.cells #[.int .i64 (sz : Int), .slice aq (dl q) cq, .slice ap (dl p) cp] 86)) = W9 := ⟨_, rfl⟩
    rw [hW2] at hzz hbz
    have HZ := Lib.hid hzz
    have HBZ := Lib.hid hbz
    have hz_0 := HZ.out.cell (i := 0) rfl
    have hz_1 := HZ.out.cell (i := 1) rfl
    have hz_2 := HZ.out.cell (i := 2) rfl
    have hzl := HZ.out.lt
    clear hzz hbz
    go_wp2_with fail
    go_quiet (fail)
    go_wp2_with fail
    go_ret
    exact ⟨by rw [HR.out]; rfl, below_up HBZ.out (below_drewN (Below.refl _ _) _)⟩


set_option maxRecDepth 100000 in
set_option maxHeartbeats 2000000 in
theorem refIsElem_any (s : ByteArray) (sz q p : Nat) (aq ap : Option Addr) (cq cp : Nat) (hsz : sz ≤ 32) (w : World) (hQ : NumAt w aq q) :
    Calls Tryz.prog 125 #[.agg #[.int .i64 (sz : Int), .slice aq (dl q) cq, .slice ap (dl p) cp], .string s] w fun e w' => e = .returned (.bool (isEl q sz s)) ∧ Below w.heap.size w w' := by
  have HQ := Lib.hid hQ
  clear hQ
  by_cases hl : s.size = sz
  · have hn := numOf_16 s (by omega)
    have hd : ((s.size : Int) == (sz : Int)) = true := by rw [hl]; simp
    have hss : s.size ≤ 1048576 := by omega
    by_cases h0 : 0 < numOf s
    · have HR : Hid (isEl q sz s = decide (numOf s ≤ q)) := by show _ = _; unfold isEl; simp [hl, h0]
      have hdl := dl_pos _ (Nat.ne_of_gt h0)
      have hdd : decide ((dl (numOf s) : Int) > 0) = true := by simp; omega
      clear hl h0
      go_enter Tryz.func125, Tryz.ntmps125
      have hzz : Bx (w.alloc (.cells #[.int .i64 (sz : Int), .slice aq (dl q) cq, .slice ap (dl p) cp] 86)) w.heap.size 86 (gR sz q p aq ap cq cp) := Bx.new w _ _ _ rfl
      have hbz : Below w.heap.size w (w.alloc (.cells #[.int .i64 (sz : Int), .slice aq (dl q) cq, .slice ap (dl p) cp] 86)) := (Below.refl w.heap.size w).alloc (Nat.le_refl _) _
      obtain ⟨W2, hW2⟩ : ∃ W9 : World, (w.alloc (.cells #[.int .i64 (sz : Int), .slice aq (dl q) cq, .slice ap (dl p) cp] 86)) = W9 := ⟨_, rfl⟩
      rw [hW2] at hzz hbz
      have HZ := Lib.hid hzz
      have HBZ := Lib.hid hbz
      have hz_0 := HZ.out.cell (i := 0) rfl
      have hz_1 := HZ.out.cell (i := 1) rfl
      have hz_2 := HZ.out.cell (i := 2) rfl
      have hzl := HZ.out.lt
      clear hzz hbz
      go_wp2_with fail
      have HW0 : Hid (Below W2.heap.size W2 W2.drew) := (Below.refl _ _).drew
      refine wp_region_tree (fun w' => ∃ E : Over W2, w' = E.w) (.qs [0, 1, 2, 3, 4, 5, 6] (.a 7 (.q 8 (.q 9 (.q 10 (.q 11 (.q 12 (.q 14 (.q 15 (.a 13 (.a 16 (.q 17 (.q 18 (.q 19 .done)))))))))))))) (by kernel_rfl) (by kernel_rfl) (fun _ _ d _ _ h => by cases d <;> exact h) ⟨⟨_, HW0.out⟩, rfl⟩ ?_
      have hov := fun (E : Over W2) o => E.cell (b := w.heap.size) o hzl
      simp only [Tree.qs]
      repeat (refine tree_q rfl rfl ?_; go_big_quiet_step (fail); refine wpQuiet_nil ?_)
      refine tree_a rfl (fun K hK => ?_)
      go_simp
      refine (refRead_any s hss _).mono ?_
      rintro e w4 ⟨a4, c4, rfl, hn9, hb9⟩
      have HN4 := Lib.hid hn9
      have HW4 := Lib.hid (below_up HW0.out hb9)
      clear hn9 hb9
      refine hK _ _ ⟨⟨⟨w4, HW4.out⟩, rfl⟩, ?_⟩
      clear hK K
      repeat (refine tree_q rfl rfl ?_; go_big_quiet_step (fail); refine wpQuiet_nil ?_)
      refine tree_a rfl (fun K hK => ?_)
      go_simp
      refine (refRead_any s hss _).mono ?_
      rintro e w5 ⟨a5, c5, rfl, hn9, hb9⟩
      have HN5 := Lib.hid hn9
      have HW5 := Lib.hid (below_up HW4.out hb9)
      clear hn9 hb9
      refine hK _ _ ⟨⟨⟨w5, HW5.out⟩, rfl⟩, ?_⟩
      clear hK K
      refine tree_a rfl (fun K hK => ?_)
      go_simp
      refine (refCompare_any (numOf s) q a5 aq c5 cq (small_dl _ hn) w5 HN5.out (HQ.out.up (below_up HBZ.out HW5.out))).mono ?_
      rintro e w6 ⟨rfl, hb9⟩
      have HW6 := Lib.hid (below_up HW5.out hb9)
      clear hb9
      refine hK _ _ ⟨⟨⟨w6, HW6.out⟩, rfl⟩, ?_⟩
      clear hK K
      repeat (refine tree_q rfl rfl ?_; go_big_quiet_step (fail); refine wpQuiet_nil ?_)
      refine tree_end ?_
      have HF := Lib.hid (below_up HBZ.out HW6.out)
      clear hov
      go_wp2_with fail
      go_ret
      exact ⟨by rw [HR.out, ← cmpI_le]; rfl, HF.out⟩
    · have HR : Hid (isEl q sz s = false) := by show _ = _; unfold isEl; simp [h0]
      have h00 : numOf s = 0 := by omega
      have hdl : dl (numOf s) = 0 := by rw [h00]; rfl
      clear hl h0 h00
      go_enter Tryz.func125, Tryz.ntmps125
      have hzz : Bx (w.alloc (.cells #[.int .i64 (sz : Int), .slice aq (dl q) cq, .slice ap (dl p) cp] 86)) w.heap.size 86 (gR sz q p aq ap cq cp) := Bx.new w _ _ _ rfl
      have hbz : Below w.heap.size w (w.alloc (.cells #[.int .i64 (sz : Int), .slice aq (dl q) cq, .slice ap (dl p) cp] 86)) := (Below.refl w.heap.size w).alloc (Nat.le_refl _) _
      obtain ⟨W2, hW2⟩ : ∃ W9 : World, (w.alloc (.cells #[.int .i64 (sz : Int), .slice aq (dl q) cq, .slice ap (dl p) cp] 86)) = W9 := ⟨_, rfl⟩
      rw [hW2] at hzz hbz
      have HZ := Lib.hid hzz
      have HBZ := Lib.hid hbz
      have hz_0 := HZ.out.cell (i := 0) rfl
      have hz_1 := HZ.out.cell (i := 1) rfl
      have hz_2 := HZ.out.cell (i := 2) rfl
      have hzl := HZ.out.lt
      clear hzz hbz
      go_wp2_with fail
      have HW0 : Hid (Below W2.heap.size W2 W2.drew) := (Below.refl _ _).drew
      refine wp_region_tree (fun w' => ∃ E : Over W2, w' = E.w) (.qs [0, 1, 2, 3, 4, 5, 6] (.a 7 (.q 8 (.q 9 (.q 10 (.q 11 (.q 12 (.q 14 (.q 15 (.a 13 (.a 16 (.q 17 (.q 18 (.q 19 .done)))))))))))))) (by kernel_rfl) (by kernel_rfl) (fun _ _ d _ _ h => by cases d <;> exact h) ⟨⟨_, HW0.out⟩, rfl⟩ ?_
      have hov := fun (E : Over W2) o => E.cell (b := w.heap.size) o hzl
      simp only [Tree.qs]
      repeat (refine tree_q rfl rfl ?_; go_big_quiet_step (fail); refine wpQuiet_nil ?_)
      refine tree_a rfl (fun K hK => ?_)
      go_simp
      refine (refRead_any s hss _).mono ?_
      rintro e w4 ⟨a4, c4, rfl, hn9, hb9⟩
      have HN4 := Lib.hid hn9
      have HW4 := Lib.hid (below_up HW0.out hb9)
      clear hn9 hb9
      refine hK _ _ ⟨⟨⟨w4, HW4.out⟩, rfl⟩, ?_⟩
      clear hK K
      repeat (refine tree_q rfl rfl ?_; go_big_quiet_step (fail); refine wpQuiet_nil ?_)
      refine tree_a rfl (fun K hK => ?_)
      go_simp
      refine hK _ _ ⟨⟨⟨w4, HW4.out⟩, rfl⟩, ?_⟩
      clear hK K
      refine tree_a rfl (fun K hK => ?_)
      go_simp
      refine hK _ _ ⟨⟨⟨w4, HW4.out⟩, rfl⟩, ?_⟩
      clear hK K
      repeat (refine tree_q rfl rfl ?_; go_big_quiet_step (fail); refine wpQuiet_nil ?_)
      refine tree_end ?_
      have HF := Lib.hid (below_up HBZ.out HW4.out)
      clear hov
      go_wp2_with fail
      go_ret
      exact ⟨by rw [HR.out]; rfl, HF.out⟩
  · have HR : Hid (isEl q sz s = false) := by show _ = _; unfold isEl; simp [hl]
    have hd : ((s.size : Int) == (sz : Int)) = false := by simp; omega
    clear hl
    go_enter Tryz.func125, Tryz.ntmps125
    have hzz : Bx (w.alloc (.cells #[.int .i64 (sz : Int), .slice aq (dl q) cq, .slice ap (dl p) cp] 86)) w.heap.size 86 (gR sz q p aq ap cq cp) := Bx.new w _ _ _ rfl
    have hbz : Below w.heap.size w (w.alloc (.cells #[.int .i64 (sz : Int), .slice aq (dl q) cq, .slice ap (dl p) cp] 86)) := (Below.refl w.heap.size w).alloc (Nat.le_refl _) _
    obtain ⟨W2, hW2⟩ : ∃ W9 : World, (w.alloc (.cells #[.int .i64 (sz : Int), .slice aq (dl q) cq, .slice ap (dl p) cp] 86)) = W9 := ⟨_, rfl⟩
    rw [hW2] at hzz hbz
    have HZ := Lib.hid hzz
    have HBZ := Lib.hid hbz
    have hz_0 := HZ.out.cell (i := 0) rfl
    have hz_1 := HZ.out.cell (i := 1) rfl
    have hz_2 := HZ.out.cell (i := 2) rfl
    have hzl := HZ.out.lt
    clear hzz hbz
    go_wp2_with fail
    go_quiet (fail)
    go_wp2_with fail
    go_ret
    exact ⟨by rw [HR.out]; rfl, below_up HBZ.out (below_drewN (Below.refl _ _) _)⟩

end Go.Proofs.YtdlnnkbigeiilaaGreat

/- The package group: Scalar, Member. No condition. -/
namespace Go.Proofs.YtdlnnkbigeiilaaGreat
open Go.RowKit

/-- What a reading of bytes answers: limbs, and whether it was good. -/
def ReadR (ok : Bool) (v : Value) (w : World) (e : Ending) (w' : World) : Prop := ∃ x : Nat, e = .returned (.tuple #[limbV x, .bool ok]) ∧ Below w.heap.size w w' ∧ (ok = true → limbV x = v)

theorem gScalar_any (G : GP) (ok : G.Ok) (gb : Nat) (s : ByteArray) (w : World) (hG : GroupAt w gb G) :
    Calls Tryz.prog 37 #[.pointer (some ⟨gb, 0, none⟩), .string s] w (ReadR (isSc G.q.m G.size s) (scV G (numOf s)) w) := by
  have no : isSc G.q.m G.size s = false → ∀ e w', (e = .returned (.tuple #[limbV 0, .bool false]) ∧ Below w.heap.size w w') → ReadR (isSc G.q.m G.size s) (scV G (numOf s)) w e w' := fun h e w' ⟨h1, h2⟩ => ⟨0, by rw [h]; exact h1, h2, fun hc => by rw [h] at hc; cases hc⟩
  by_cases h32 : 32 < s.size
  · exact (gScalar_long G ok gb s h32 w hG).mono (no (by have := ok.size_le; unfold isSc; simp; omega))
  by_cases hl : s.size = G.size
  · rcases Nat.lt_trichotomy (numOf s) G.q.m with hc | hc | hc
    · refine (gScalar_yes G ok gb s hl hc w hG).mono ?_
      rintro e w' ⟨h1, h2⟩
      exact ⟨mont G.q.m (numOf s), by rw [show isSc G.q.m G.size s = true by unfold isSc; simp [hl, hc]]; exact h1, h2, fun _ => rfl⟩
    · exact (gScalar_eq G ok gb s hl hc w hG).mono (no (by unfold isSc; simp; omega))
    · exact (gScalar_gt G ok gb s hl hc w hG).mono (no (by unfold isSc; simp; omega))
  · exact (gScalar_len G ok gb s (by omega) hl w hG).mono (no (by unfold isSc; simp [hl]))

theorem gElem_any (G : GP) (ok : G.Ok) (gb : Nat) (s : ByteArray) (w : World) (hG : GroupAt w gb G) :
    Calls Tryz.prog 137 #[.pointer (some ⟨gb, 0, none⟩), .string s] w (ReadR (isEl G.q.m G.size s) (elV G (numOf s)) w) := by
  have no : isEl G.q.m G.size s = false → ∀ e w', (e = .returned (.tuple #[limbV 0, .bool false]) ∧ Below w.heap.size w w') → ReadR (isEl G.q.m G.size s) (elV G (numOf s)) w e w' := fun h e w' ⟨h1, h2⟩ => ⟨0, by rw [h]; exact h1, h2, fun hc => by rw [h] at hc; cases hc⟩
  by_cases h32 : 32 < s.size
  · exact (gElem_long G ok gb s h32 w hG).mono (no (by have := ok.size_le; unfold isEl; simp; omega))
  by_cases hl : s.size = G.size
  · by_cases h0 : numOf s = 0
    · exact (gElem_zero G ok gb s hl h0 w hG).mono (no (by unfold isEl; simp [h0]))
    rcases Nat.lt_trichotomy (numOf s) G.q.m with hc | hc | hc
    · refine (gElem_lt G ok gb s hl (by omega) hc w hG).mono ?_
      rintro e w' ⟨h1, h2⟩
      exact ⟨mont G.p.m (numOf s), by rw [show isEl G.q.m G.size s = true by unfold isEl; simp [hl]; omega]; exact h1, h2, fun _ => rfl⟩
    · refine (gElem_eq G ok gb s hl (by omega) hc w hG).mono ?_
      rintro e w' ⟨h1, h2⟩
      exact ⟨mont G.p.m (numOf s), by rw [show isEl G.q.m G.size s = true by unfold isEl; simp [hl]; omega]; exact h1, h2, fun _ => rfl⟩
    · exact (gElem_gt G ok gb s hl hc w hG).mono (no (by unfold isEl; simp; omega))
  · exact (gElem_len G ok gb s (by omega) hl w hG).mono (no (by unfold isEl; simp [hl]))


set_option maxRecDepth 100000 in
set_option maxHeartbeats 1000000 in
theorem Scalar_none (k : Int) (hk : ¬ (1 ≤ k ∧ k ≤ 3)) (s : ByteArray) (w : World) : Calls Tryz.prog 85 #[.int .i64 k, .string s] w fun e w' => e = .returned (.bool false) ∧ Below w.heap.size w w' := by
  go_enter Tryz.func85, Tryz.ntmps85
  go_wp2_with fail
  refine (of_none k hk w).mono ?_
  rintro e w1 ⟨rfl, rfl⟩
  go_wp2_with fail
  go_ret
  exact ⟨rfl, Below.refl _ _⟩

set_option maxRecDepth 100000 in
set_option maxHeartbeats 1000000 in
theorem Scalar_some (k : Nat) (h1 : 1 ≤ k) (h3 : k ≤ 3) (s : ByteArray) (w : World) : Calls Tryz.prog 85 #[.int .i64 (k : Int), .string s] w fun e w' => e = .returned (.bool (isSc (grp k).q.m (grp k).size s)) ∧ Below w.heap.size w w' := by
  have OK := Lib.hid (grp_ok k h1 h3)
  go_enter Tryz.func85, Tryz.ntmps85
  go_wp2_with fail
  refine (of_some k h1 h3 w).mono ?_
  rintro e w1 ⟨rfl, hg, hb⟩
  have HG := Lib.hid hg
  have HB := Lib.hid hb
  clear hg hb
  go_wp2_with fail
  refine (gScalar_any (grp k) OK.out w.heap.size s w1 HG.out).mono ?_
  rintro e w2 ⟨x, rfl, hb2, -⟩
  have HB2 := Lib.hid (below_up HB.out hb2)
  clear hb2
  obtain ⟨b, hbb⟩ : ∃ b, isSc (grp k).q.m (grp k).size s = b := ⟨_, rfl⟩
  rw [hbb]
  have HBB := Lib.hid hbb
  clear hbb
  unfold limbV
  go_wp2_with fail
  go_ret
  exact ⟨by rw [HBB.out]; rfl, HB2.out.alloc HB2.out.size _⟩

set_option maxRecDepth 100000 in
set_option maxHeartbeats 1000000 in
theorem Member_none (k : Int) (hk : ¬ (1 ≤ k ∧ k ≤ 3)) (s : ByteArray) (w : World) : Calls Tryz.prog 87 #[.int .i64 k, .string s] w fun e w' => e = .returned (.bool false) ∧ Below w.heap.size w w' := by
  go_enter Tryz.func87, Tryz.ntmps87
  go_wp2_with fail
  refine (of_none k hk w).mono ?_
  rintro e w1 ⟨rfl, rfl⟩
  go_wp2_with fail
  go_ret
  exact ⟨rfl, Below.refl _ _⟩

set_option maxRecDepth 100000 in
set_option maxHeartbeats 1000000 in
theorem Member_some (k : Nat) (h1 : 1 ≤ k) (h3 : k ≤ 3) (s : ByteArray) (w : World) : Calls Tryz.prog 87 #[.int .i64 (k : Int), .string s] w fun e w' => e = .returned (.bool (isEl (grp k).q.m (grp k).size s)) ∧ Below w.heap.size w w' := by
  have OK := Lib.hid (grp_ok k h1 h3)
  go_enter Tryz.func87, Tryz.ntmps87
  go_wp2_with fail
  refine (of_some k h1 h3 w).mono ?_
  rintro e w1 ⟨rfl, hg, hb⟩
  have HG := Lib.hid hg
  have HB := Lib.hid hb
  clear hg hb
  go_wp2_with fail
  refine (gElem_any (grp k) OK.out w.heap.size s w1 HG.out).mono ?_
  rintro e w2 ⟨x, rfl, hb2, -⟩
  have HB2 := Lib.hid (below_up HB.out hb2)
  clear hb2
  obtain ⟨b, hbb⟩ : ∃ b, isEl (grp k).q.m (grp k).size s = b := ⟨_, rfl⟩
  rw [hbb]
  have HBB := Lib.hid hbb
  clear hbb
  unfold limbV
  go_wp2_with fail
  go_ret
  exact ⟨by rw [HBB.out]; rfl, HB2.out.alloc HB2.out.size _⟩


def redV (G : GP) (s : ByteArray) : ByteArray := if 1024 < s.size then ⟨#[]⟩ else textS (numOf s % G.q.m) G.size
def redE (s : ByteArray) : Int := if 1024 < s.size then 3 else 0

end Go.Proofs.YtdlnnkbigeiilaaGreat

/- The package group: Add, Sub, Mul, Inv, Times, Under. No condition. -/
namespace Go.Proofs.YtdlnnkbigeiilaaGreat
open Go.RowKit

/-- What a reading answers, its limbs told when it is good. -/
def ReadM (b : Bool) (m : Nat) (w : World) (e : Ending) (w' : World) : Prop := ∃ x : Nat, e = .returned (.tuple #[limbV x, .bool b]) ∧ Below w.heap.size w w' ∧ (b = true → x = m)

theorem ReadR.m {b : Bool} {m : Nat} {w w' : World} {e : Ending} (h : ReadR b (limbV m) w e w') : ReadM b m w e w' := by
  obtain ⟨x, h1, h2, h3⟩ := h
  cases b with
  | true => exact ⟨m, by rw [h1, h3 rfl], h2, fun _ => rfl⟩
  | false => exact ⟨x, h1, h2, fun h => by cases h⟩

theorem gScalar_m (G : GP) (ok : G.Ok) (gb : Nat) (s : ByteArray) (b : Bool) (hb : isSc G.q.m G.size s = b) (w : World) (hG : GroupAt w gb G) :
    Calls Tryz.prog 37 #[.pointer (some ⟨gb, 0, none⟩), .string s] w (ReadM b (mont G.q.m (numOf s)) w) := by
  subst hb
  exact (gScalar_any G ok gb s w hG).mono fun e w' h => ReadR.m h
theorem gElem_m (G : GP) (ok : G.Ok) (gb : Nat) (s : ByteArray) (b : Bool) (hb : isEl G.q.m G.size s = b) (w : World) (hG : GroupAt w gb G) :
    Calls Tryz.prog 137 #[.pointer (some ⟨gb, 0, none⟩), .string s] w (ReadM b (mont G.p.m (numOf s)) w) := by
  subst hb
  exact (gElem_any G ok gb s w hG).mono fun e w' h => ReadR.m h


end Go.Proofs.YtdlnnkbigeiilaaGreat

/- The package group: the faces Add, Sub, Mul, Inv, Times, Under. No condition. -/
namespace Go.Proofs.YtdlnnkbigeiilaaGreat
open Go.RowKit

theorem box2 (w : World) (v1 v2 : Value) (t1 t2 : TypeId) :
    Below w.heap.size w ((w.alloc (.cells #[v1] t1)).alloc (.cells #[v2] t2)) ∧ Bx ((w.alloc (.cells #[v1] t1)).alloc (.cells #[v2] t2)) w.heap.size t1 [v1] ∧ Bx ((w.alloc (.cells #[v1] t1)).alloc (.cells #[v2] t2)) (w.heap.size + 1) t2 [v2] := by
  have a1 : Below w.heap.size w (w.alloc (.cells #[v1] t1)) := (Below.refl _ _).alloc (Nat.le_refl _) _
  have a2 : Below (w.alloc (.cells #[v1] t1)).heap.size (w.alloc (.cells #[v1] t1)) ((w.alloc (.cells #[v1] t1)).alloc (.cells #[v2] t2)) := (Below.refl _ _).alloc (Nat.le_refl _) _
  refine ⟨below_up a1 a2, (Bx.new w _ _ _ rfl).up a2, ?_⟩
  have h := Bx.new (w.alloc (.cells #[v1] t1)) t2 [v2] _ rfl
  rwa [World.size_alloc] at h

theorem box3 (w : World) (v1 v2 v3 : Value) (t1 t2 t3 : TypeId) :
    Below w.heap.size w (((w.alloc (.cells #[v1] t1)).alloc (.cells #[v2] t2)).alloc (.cells #[v3] t3)) ∧ Bx (((w.alloc (.cells #[v1] t1)).alloc (.cells #[v2] t2)).alloc (.cells #[v3] t3)) w.heap.size t1 [v1]
      ∧ Bx (((w.alloc (.cells #[v1] t1)).alloc (.cells #[v2] t2)).alloc (.cells #[v3] t3)) (w.heap.size + 1) t2 [v2] ∧ Bx (((w.alloc (.cells #[v1] t1)).alloc (.cells #[v2] t2)).alloc (.cells #[v3] t3)) (w.heap.size + 2) t3 [v3] := by
  obtain ⟨h1, h2, h3⟩ := box2 w v1 v2 t1 t2
  have a2 : Below ((w.alloc (.cells #[v1] t1)).alloc (.cells #[v2] t2)).heap.size ((w.alloc (.cells #[v1] t1)).alloc (.cells #[v2] t2)) (((w.alloc (.cells #[v1] t1)).alloc (.cells #[v2] t2)).alloc (.cells #[v3] t3)) := (Below.refl _ _).alloc (Nat.le_refl _) _
  refine ⟨below_up h1 a2, h2.up a2, h3.up a2, ?_⟩
  have h := Bx.new ((w.alloc (.cells #[v1] t1)).alloc (.cells #[v2] t2)) t3 [v3] _ rfl
  rwa [World.size_alloc, World.size_alloc] at h


def recV (G : GP) (a b : ByteArray) (z : Nat) : ByteArray := if (isSc G.q.m G.size a && isSc G.q.m G.size b) = true then textS (z % G.q.m) G.size else ⟨#[]⟩
def recE (G : GP) (a b : ByteArray) : Int := if (isSc G.q.m G.size a && isSc G.q.m G.size b) = true then 0 else 6

theorem isSc_lt {q size : Nat} {s : ByteArray} (h : isSc q size s = true) : numOf s < q := by
  unfold isSc at h
  simp at h
  exact h.2

theorem box1 (w : World) (v1 : Value) (t1 : TypeId) : Below w.heap.size w (w.alloc (.cells #[v1] t1)) ∧ Bx (w.alloc (.cells #[v1] t1)) w.heap.size t1 [v1] :=
  ⟨(Below.refl _ _).alloc (Nat.le_refl _) _, Bx.new w _ _ _ rfl⟩

def invV (G : GP) (a : ByteArray) : ByteArray := if isSc G.q.m G.size a = true ∧ numOf a ≠ 0 then textS (numOf a ^ (G.q.m - 2) % G.q.m) G.size else ⟨#[]⟩
def invE (G : GP) (a : ByteArray) : Int := if isSc G.q.m G.size a = true then (if numOf a = 0 then 5 else 0) else 6
def undV (G : GP) (a : ByteArray) : ByteArray := if isEl G.q.m G.size a = true then textS (lowN G (numOf a ^ (G.p.m - 2))) G.size else ⟨#[]⟩
def undE (G : GP) (a : ByteArray) : Int := if isEl G.q.m G.size a = true then 0 else 7
def timV (G : GP) (a b : ByteArray) : ByteArray := if (isEl G.q.m G.size a && isEl G.q.m G.size b) = true then textS (lowN G (numOf a * numOf b)) G.size else ⟨#[]⟩
def timE (G : GP) (a b : ByteArray) : Int := if (isEl G.q.m G.size a && isEl G.q.m G.size b) = true then 0 else 7

end Go.Proofs.YtdlnnkbigeiilaaGreat

/- The package group: Product. No condition. -/
namespace Go.Proofs.YtdlnnkbigeiilaaGreat
open Go.RowKit

/-- What a product of powers answers: its bytes, and an errno. -/
def prodV (G : GP) : List ByteArray → List ByteArray → Nat → ByteArray
  | a :: xs, n :: ys, z => if isEl G.q.m G.size a = false then ⟨#[]⟩ else if isSc G.q.m G.size n = false then ⟨#[]⟩ else prodV G xs ys (z * numOf a ^ numOf n)
  | _, _, z => textS (lowN G z) G.size
def prodE (G : GP) : List ByteArray → List ByteArray → Int
  | a :: xs, n :: ys => if isEl G.q.m G.size a = false then 7 else if isSc G.q.m G.size n = false then 6 else prodE G xs ys
  | _, _ => 0


set_option maxRecDepth 100000 in
set_option maxHeartbeats 400000 in
theorem product1_long (gb b1 b2 la ln : Nat) (aa an : Option Addr) (ca cn : Nat) (hl : 256 < la ∨ 256 < ln) (w : World)
    (hc1 : Bx w b1 23 [.slice aa la ca]) (hc2 : Bx w b2 23 [.slice an ln cn]) :
    Calls Tryz.prog 163 #[.pointer (some ⟨gb, 0, none⟩), .pointer (some ⟨b1, 0, none⟩), .pointer (some ⟨b2, 0, none⟩)] w (Ans (.string ⟨#[]⟩) 3 w) := by
  have hk1 := hc1.cell (i := 0) rfl
  have hk2 := hc2.cell (i := 0) rfl
  clear hc1 hc2
  by_cases ha : 256 < la
  · have hd : decide ((la : Int) > 256) = true := by simp; omega
    go_enter Tryz.func163, Tryz.ntmps163
    go_wp2_with fail
    go_ret2
    exact ⟨rfl, Below.refl _ _⟩
  · have hd : decide ((la : Int) > 256) = false := by simp; omega
    have hd2 : decide ((ln : Int) > 256) = true := by simp; omega
    go_enter Tryz.func163, Tryz.ntmps163
    go_wp2_with fail
    go_ret2
    exact ⟨rfl, Below.refl _ _⟩

set_option maxRecDepth 100000 in
set_option maxHeartbeats 400000 in
theorem product1_form (gb b1 b2 la ln : Nat) (aa an : Option Addr) (ca cn : Nat) (h1 : la ≤ 256) (h2 : ln ≤ 256) (hne : la ≠ ln) (w : World)
    (hc1 : Bx w b1 23 [.slice aa la ca]) (hc2 : Bx w b2 23 [.slice an ln cn]) :
    Calls Tryz.prog 163 #[.pointer (some ⟨gb, 0, none⟩), .pointer (some ⟨b1, 0, none⟩), .pointer (some ⟨b2, 0, none⟩)] w (Ans (.string ⟨#[]⟩) 2 w) := by
  have hk1 := hc1.cell (i := 0) rfl
  have hk2 := hc2.cell (i := 0) rfl
  clear hc1 hc2
  have hd : decide ((la : Int) > 256) = false := by simp; omega
  have hd2 : decide ((ln : Int) > 256) = false := by simp; omega
  have hd3 : ((la : Int) != (ln : Int)) = true := by rw [bne_iff_ne]; intro h; exact hne (by exact_mod_cast h)
  go_enter Tryz.func163, Tryz.ntmps163
  go_wp2_with fail
  go_ret2
  exact ⟨rfl, Below.refl _ _⟩

theorem drop_cons {α : Type} {l : List α} {i : Nat} (h : i < l.length) : l.drop i = l[i] :: l.drop (i + 1) := List.drop_eq_getElem_cons h

set_option maxRecDepth 100000 in
set_option maxHeartbeats 1000000 in
theorem product1_any (G : GP) (ok : G.Ok) (gb b1 b2 L : Nat) (xs ys : List ByteArray) (aa an : Option Addr) (ca cn : Nat) (ha : xs.length = L) (hn : ys.length = L) (hL : L ≤ 256) (w : World) (hG : GroupAt w gb G)
    (hc1 : Bx w b1 23 [.slice aa L ca]) (hc2 : Bx w b2 23 [.slice an L cn]) (hA : Sl w w.heap.size aa (xs.map Value.string)) (hN : Sl w w.heap.size an (ys.map Value.string)) :
    Calls Tryz.prog 163 #[.pointer (some ⟨gb, 0, none⟩), .pointer (some ⟨b1, 0, none⟩), .pointer (some ⟨b2, 0, none⟩)] w (Ans (.string (prodV G xs ys 1)) (prodE G xs ys) w) := by
  have HLA := Lib.hid ha
  have HLN := Lib.hid hn
  have HC1 := Lib.hid hc1
  have HC2 := Lib.hid hc2
  have HA := Lib.hid hA
  have HNN := Lib.hid hN
  have HG := Lib.hid hG
  have OK := Lib.hid ok
  have hk1 := hc1.cell (i := 0) rfl
  have hk2 := hc2.cell (i := 0) rfl
  clear ha hn hc1 hc2 hA hN hG ok
  have hd : decide ((L : Int) > 256) = false := by simp; omega
  have hd3 : ((L : Int) != (L : Int)) = false := by simp
  go_enter Tryz.func163, Tryz.ntmps163
  go_wp2_with fail
  refine (gOne_any G OK.out gb w HG.out).mono ?_
  rintro e w1 ⟨rfl, hb1⟩
  have HB1 := Lib.hid hb1
  clear hb1
  unfold elV limbV
  obtain ⟨w2, hlw, hlb, hlz⟩ := boxL w1 127 ((mont G.p.m 1))
  have HLw2 := Lib.hid hlb
  have HXw2 := Lib.hid hlz
  clear hlb hlz
  have HB2 := Lib.hid (below_up HB1.out HLw2.out)
  have hwb : w.heap.size ≤ w1.heap.size := HB1.out.size
  clear hk1 hk2
  have hk1 := (HC1.out.up HB2.out).cell (i := 0) rfl
  go_wp2_with fail
  go_loopw [7, 8, 9, 10, 30] (fun _ _ _ _ x wr => ∃ i z : Nat, i ≤ L ∧ x = .int .i64 (i : Int) ∧ Hid (Below w.heap.size w wr) ∧ Hid (Blk wr w1.heap.size 127 (lim (mont G.p.m z))) ∧ Hid (prodV G xs ys 1 = prodV G (xs.drop i) (ys.drop i) z) ∧ Hid (prodE G xs ys = prodE G (xs.drop i) (ys.drop i))) (fun _ _ _ _ x _ => L - (intOf x).toNat)
  case atStart => exact ⟨0, 1, Nat.zero_le _, rfl, HB2.out, HXw2.out, rfl, rfl⟩
  case round =>
    obtain ⟨i, z, hi, hxi, HB, HZ, HV, HE⟩ := hrel
    subst hxi
    clear hk1
    have hk1 := (HC1.out.up HB.out).cell (i := 0) rfl
    have hk2 := (HC2.out.up HB.out).cell (i := 0) rfl
    by_cases hiL : i < L
    · obtain ⟨s, hs⟩ : ∃ s, xs[i]'(by rw [HLA.out]; exact hiL) = s := ⟨_, rfl⟩
      obtain ⟨t, ht⟩ : ∃ t, ys[i]'(by rw [HLN.out]; exact hiL) = t := ⟨_, rfl⟩
      obtain ⟨b3, o3, rfl, hb3, hc3⟩ := HA.out.at i (by rw [List.length_map, HLA.out]; exact hiL)
      obtain ⟨b4, o4, rfl, hb4, hc4⟩ := HNN.out.at i (by rw [List.length_map, HLN.out]; exact hiL)
      rw [List.getElem_map, hs] at hc3
      rw [List.getElem_map, ht] at hc4
      have hx3 : wr.cell? ⟨b3, o3 + i, none⟩ = some (.string s) := by rw [HB.out.cell (p := ⟨b3, o3 + i, none⟩) hb3]; exact hc3
      have HC4 := Lib.hid hc4
      have hdx := drop_cons (show i < xs.length by rw [HLA.out]; exact hiL)
      have hdy := drop_cons (show i < ys.length by rw [HLN.out]; exact hiL)
      rw [hs] at hdx
      rw [ht] at hdy
      have HDX := Lib.hid hdx
      have HDY := Lib.hid hdy
      clear hs ht hc3 hc4 hdx hdy
      obtain ⟨ba, hba⟩ : ∃ b, isEl G.q.m G.size s = b := ⟨_, rfl⟩
      obtain ⟨bb, hbb⟩ : ∃ b, isSc G.q.m G.size t = b := ⟨_, rfl⟩
      have HBA := Lib.hid hba
      have HBB := Lib.hid hbb
      clear hba hbb
      go_wp2_with fail
      refine (gElem_m G OK.out gb s ba HBA.out wr (HG.out.up HB.out)).mono ?_
      rintro e w3 ⟨x, rfl, hb3', hx⟩
      have HX := Lib.hid hx
      have HB3 := Lib.hid (below_up HB.out hb3')
      have HZ3 := Lib.hid (HZ.out.below hb3' HZ.out.lt)
      clear hb3' hx hx3 hk1 hk2
      unfold limbV
      obtain ⟨w4, hlw, hlb, hlz⟩ := boxL w3 127 (x)
      have HLw4 := Lib.hid hlb
      have HXw4 := Lib.hid hlz
      clear hlb hlz
      have HB4 := Lib.hid (below_up HB3.out HLw4.out)
      have HZ4 := Lib.hid (HZ3.out.below HLw4.out HZ3.out.lt)
      have hk2 := (HC2.out.up HB4.out).cell (i := 0) rfl
      have hx4 : w4.cell? ⟨b4, o4 + i, none⟩ = some (.string t) := by rw [HB4.out.cell (p := ⟨b4, o4 + i, none⟩) hb4]; exact HC4.out
      cases ba
      · go_wp2_with fail
        go_ret2
        exact ⟨by rw [HV.out, HE.out, HDX.out, HDY.out]; unfold prodV prodE; rw [if_pos HBA.out, if_pos HBA.out]; rfl, HB4.out⟩
      · obtain rfl : x = mont G.p.m (numOf s) := HX.out rfl
        go_wp2_with fail
        refine (gScalar_m G OK.out gb t bb HBB.out w4 (HG.out.up HB4.out)).mono ?_
        rintro e w5 ⟨y, rfl, hb5, hy⟩
        have HY := Lib.hid hy
        have HB5 := Lib.hid (below_up HB4.out hb5)
        have HZ5 := Lib.hid (HZ4.out.below hb5 HZ4.out.lt)
        have HX5 := Lib.hid (HXw4.out.below hb5 HXw4.out.lt)
        clear hb5 hy hx4 hk2 hlw
        unfold limbV
        obtain ⟨w6, hlw, hlb, hlz⟩ := boxL w5 72 (y)
        have HLw6 := Lib.hid hlb
        have HXw6 := Lib.hid hlz
        clear hlb hlz
        have HB6 := Lib.hid (below_up HB5.out HLw6.out)
        have HZ6 := Lib.hid (HZ5.out.below HLw6.out HZ5.out.lt)
        have HX6 := Lib.hid (HX5.out.below HLw6.out HX5.out.lt)
        cases bb
        · go_wp2_with fail
          go_ret2
          exact ⟨by rw [HV.out, HE.out, HDX.out, HDY.out]; unfold prodV prodE; rw [if_neg (by rw [HBA.out]; decide), if_pos HBB.out, if_neg (by rw [HBA.out]; decide), if_pos HBB.out]; rfl, HB6.out⟩
        · obtain rfl : y = mont G.q.m (numOf t) := HY.out rfl
          have HV2 : Hid (prodV G xs ys 1 = prodV G (xs.drop (i + 1)) (ys.drop (i + 1)) (z * numOf s ^ numOf t)) := by
            show _ = _
            rw [HV.out, HDX.out, HDY.out, prodV, if_neg (by rw [HBA.out]; decide), if_neg (by rw [HBB.out]; decide)]
          have HE2 : Hid (prodE G xs ys = prodE G (xs.drop (i + 1)) (ys.drop (i + 1))) := by
            show _ = _
            rw [HE.out, HDX.out, HDY.out, prodE, if_neg (by rw [HBA.out]; decide), if_neg (by rw [HBB.out]; decide)]
          have HM : Hid (numOf t % G.q.m = numOf t) := Nat.mod_eq_of_lt (isSc_lt HBB.out)
          go_wp2_with fail
          have hz_ := Blk.l4 (mont G.p.m z) HZ6.out
          have hx_ := Blk.l4 (mont G.p.m (numOf s)) HX6.out
          have hy_ := Blk.l4 (mont G.q.m (numOf t)) HXw6.out
          have hl1 := HZ6.out.lt
          have hl2 := HX6.out.lt
          have hl3 := HXw6.out.lt
          refine wp_region_otail 7 (by kernel_rfl) (by kernel_rfl) ?_
          simp only [List.take_succ_cons, List.take_zero, List.drop_succ_cons, List.drop_zero]
          have hov1 := fun (E : Over w6) o => E.cell (b := w1.heap.size) o hl1
          have hov2 := fun (E : Over w6) o => E.cell (b := w3.heap.size) o hl2
          have hov3 := fun (E : Over w6) o => E.cell (b := w5.heap.size) o hl3
          have hpow := fun (E : Over w6) => gPower_any G OK.out gb (numOf s) (numOf t) E.w (HG.out.up (below_up HB6.out E.h))
          rw [HM.out] at hpow
          have HPOW := Lib.hid hpow
          clear hpow
          repeat (go_big_quiet_step (first | (go_at_call 103; exact calls_over (HPOW.out _)) | (go_at_call 102; exact calls_over (gTimes_any G OK.out gb z (numOf s ^ numOf t) _ (HG.out.up (below_up HB6.out (Over.h _)))))))
          all_goals (try unfold elV limbV)
          repeat (go_big_quiet_step (first | (go_at_call 103; exact calls_over (HPOW.out _)) | (go_at_call 102; exact calls_over (gTimes_any G OK.out gb z (numOf s ^ numOf t) _ (HG.out.up (below_up HB6.out (Over.h _)))))))
          all_goals (try unfold elV limbV)
          repeat (go_big_quiet_step (first | (go_at_call 103; exact calls_over (HPOW.out _)) | (go_at_call 102; exact calls_over (gTimes_any G OK.out gb z (numOf s ^ numOf t) _ (HG.out.up (below_up HB6.out (Over.h _)))))))
          refine wpQuiet_nil ?_
          rintro _ ⟨E, rfl⟩
          have HZ7 := Lib.hid (HZ6.out.below E.h HZ6.out.lt)
          have HB7 := Lib.hid (below_up HB6.out E.h)
          clear hov1 hov2 hov3 hz_
          generalize E.w = w7 at *
          have hz_ := Blk.l4 (mont G.p.m z) HZ7.out
          have hzf_ := HZ7.out.frozen
          have HB8 : Hid (Below w.heap.size w (((((w7).setCell ⟨w1.heap.size, 0, none⟩ (.int .u64 (dig (mont G.p.m (z * numOf s ^ numOf t)) 0 : Int))).setCell ⟨w1.heap.size, 1, none⟩ (.int .u64 (dig (mont G.p.m (z * numOf s ^ numOf t)) 1 : Int))).setCell ⟨w1.heap.size, 2, none⟩ (.int .u64 (dig (mont G.p.m (z * numOf s ^ numOf t)) 2 : Int))).setCell ⟨w1.heap.size, 3, none⟩ (.int .u64 (dig (mont G.p.m (z * numOf s ^ numOf t)) 3 : Int)))) := below_fill HB7.out hwb
          have HZ8 : Hid (Blk (((((w7).setCell ⟨w1.heap.size, 0, none⟩ (.int .u64 (dig (mont G.p.m (z * numOf s ^ numOf t)) 0 : Int))).setCell ⟨w1.heap.size, 1, none⟩ (.int .u64 (dig (mont G.p.m (z * numOf s ^ numOf t)) 1 : Int))).setCell ⟨w1.heap.size, 2, none⟩ (.int .u64 (dig (mont G.p.m (z * numOf s ^ numOf t)) 2 : Int))).setCell ⟨w1.heap.size, 3, none⟩ (.int .u64 (dig (mont G.p.m (z * numOf s ^ numOf t)) 3 : Int))) w1.heap.size 127 (lim (mont G.p.m (z * numOf s ^ numOf t)))) := HZ7.out.fill rfl _
          go_wp2_with fail
          go_roundw
          case rel => exact ⟨i + 1, z * numOf s ^ numOf t, by omega, by go_num, HB8.out, HZ8.out, HV2.out, HE2.out⟩
          case measure => simp [intOf]; omega
    · have hil : i = L := by omega
      subst hil
      have hz_ := Blk.l4 (mont G.p.m z) HZ.out
      go_wp2_with fail
      refine (gText_any G OK.out gb z wr (HG.out.up HB.out)).mono ?_
      rintro e w3 ⟨rfl, hb3⟩
      have HB3 := Lib.hid (below_up HB.out hb3)
      clear hb3
      go_wp2_with fail
      go_ret2
      refine ⟨?_, HB3.out⟩
      rw [HV.out, HE.out, List.drop_eq_nil_of_le (by rw [HLA.out]; exact Nat.le_refl _)]
      rfl

def proV (G : GP) (xs ys : List ByteArray) : ByteArray := if 256 < xs.length ∨ 256 < ys.length then ⟨#[]⟩ else if xs.length ≠ ys.length then ⟨#[]⟩ else prodV G xs ys 1
def proE (G : GP) (xs ys : List ByteArray) : Int := if 256 < xs.length ∨ 256 < ys.length then 3 else if xs.length ≠ ys.length then 2 else prodE G xs ys

theorem Product_call {k : Nat} (h1 : 1 ≤ k) (h3 : k ≤ 3) {xs ys : List ByteArray} {aa an : Option Addr} {la ln ca cn : Nat} (ha : xs.length = la) (hn : ys.length = ln) {w W0 w1 : World}
    (hA : Sl w w.heap.size aa (xs.map Value.string)) (hN : Sl w w.heap.size an (ys.map Value.string))
    (hz : Below w.heap.size w W0 ∧ Bx W0 w.heap.size 23 [.slice aa la ca] ∧ Bx W0 (w.heap.size + 1) 23 [.slice an ln cn]) (hb : Below W0.heap.size W0 w1) (hg : GroupAt w1 W0.heap.size (grp k)) :
    Calls Tryz.prog 163 #[.pointer (some ⟨W0.heap.size, 0, none⟩), .pointer (some ⟨w.heap.size, 0, none⟩), .pointer (some ⟨w.heap.size + 1, 0, none⟩)] w1 (Ans (.string (proV (grp k) xs ys)) (proE (grp k) xs ys) w1) := by
  have ok := grp_ok k h1 h3
  have z1 := hz.2.1.up hb
  have z2 := hz.2.2.up hb
  have hu := below_up hz.1 hb
  unfold proV proE
  rw [ha, hn]
  by_cases hl : 256 < la ∨ 256 < ln
  · rw [if_pos hl, if_pos hl]
    exact product1_long _ _ _ la ln aa an ca cn hl w1 z1 z2
  · rw [if_neg hl, if_neg hl]
    by_cases he : la = ln
    · subst he
      rw [if_neg (by simp), if_neg (by simp)]
      exact product1_any _ ok _ _ _ la xs ys aa an ca cn ha hn (by omega) w1 hg z1 z2 (hA.up hu) (hN.up hu)
    · rw [if_pos he, if_pos he]
      exact product1_form _ _ _ la ln aa an ca cn (by omega) (by omega) he w1 z1 z2

set_option maxRecDepth 100000 in
set_option maxHeartbeats 400000 in
theorem Product_none (k : Int) (hk : ¬ (1 ≤ k ∧ k ≤ 3)) (aa an : Option Addr) (la ln ca cn : Nat) (w : World) : Calls Tryz.prog 138 #[.int .i64 k, .slice aa la ca, .slice an ln cn] w (Ans (.string ⟨#[]⟩) 1 w) := by
  go_enter Tryz.func138, Tryz.ntmps138
  go_wp2_with fail
  obtain ⟨W0, hW0⟩ : ∃ W9 : World, ((w.alloc (.cells #[.slice aa la ca] 23)).alloc (.cells #[.slice an ln cn] 23)) = W9 := ⟨_, rfl⟩
  have hz := box2 w (.slice aa la ca) (.slice an ln cn) 23 23
  rw [hW0] at hz
  have HZ := Lib.hid hz
  clear hz
  simp only [hW0]
  clear hW0
  refine (withS_none k hk _ W0).mono ?_
  rintro e w1 ⟨rfl, hb⟩
  have HB := Lib.hid (below_up HZ.out.1 hb)
  clear hb
  go_wp2_with fail
  go_ret2
  exact ⟨rfl, HB.out⟩

set_option maxRecDepth 100000 in
set_option maxHeartbeats 400000 in
theorem Product_some (k : Nat) (h1 : 1 ≤ k) (h3 : k ≤ 3) (xs ys : List ByteArray) (aa an : Option Addr) (la ln ca cn : Nat) (ha : xs.length = la) (hn : ys.length = ln) (w : World)
    (hA : Sl w w.heap.size aa (xs.map Value.string)) (hN : Sl w w.heap.size an (ys.map Value.string)) :
    Calls Tryz.prog 138 #[.int .i64 (k : Int), .slice aa la ca, .slice an ln cn] w (Ans (.string (proV (grp k) xs ys)) (proE (grp k) xs ys) w) := by
  have HLA := Lib.hid ha
  have HLN := Lib.hid hn
  have HA := Lib.hid hA
  have HN := Lib.hid hN
  clear ha hn hA hN
  go_enter Tryz.func138, Tryz.ntmps138
  go_wp2_with fail
  obtain ⟨W0, hW0⟩ : ∃ W9 : World, ((w.alloc (.cells #[.slice aa la ca] 23)).alloc (.cells #[.slice an ln cn] 23)) = W9 := ⟨_, rfl⟩
  have hz := box2 w (.slice aa la ca) (.slice an ln cn) 23 23
  rw [hW0] at hz
  have HZ := Lib.hid hz
  clear hz
  simp only [hW0]
  clear hW0
  refine (withS_some k h1 h3 163 #[.pointer (some ⟨w.heap.size, 0, none⟩), .pointer (some ⟨w.heap.size + 1, 0, none⟩)] (.string (proV (grp k) xs ys)) (proE (grp k) xs ys) (enters_of Tryz.func163 (by kernel_rfl) rfl) W0 (fun w1 hb hg => Product_call h1 h3 HLA.out HLN.out HA.out HN.out HZ.out hb hg)).mono ?_
  rintro e w2 ⟨rfl, hb2⟩
  have HB2 := Lib.hid (below_up HZ.out.1 hb2)
  clear hb2
  go_wp2_with fail
  go_ret2
  exact ⟨rfl, HB2.out⟩

end Go.Proofs.YtdlnnkbigeiilaaGreat

/- The package group: Power. No condition. -/
namespace Go.Proofs.YtdlnnkbigeiilaaGreat
open Go.RowKit

def powV (G : GP) (a n : ByteArray) : ByteArray := if isEl G.q.m G.size a = false then ⟨#[]⟩ else if isSc G.q.m G.size n = false then ⟨#[]⟩ else textS (lowN G (numOf a ^ numOf n)) G.size
def powE (G : GP) (a n : ByteArray) : Int := if isEl G.q.m G.size a = false then 7 else if isSc G.q.m G.size n = false then 6 else 0

theorem powV_eq (G : GP) (a n : ByteArray) : proV G [a] [n] = powV G a n := by
  unfold proV powV
  rw [if_neg (by simp), if_neg (by simp)]
  unfold prodV
  rw [Nat.one_mul]
  rfl
theorem powE_eq (G : GP) (a n : ByteArray) : proE G [a] [n] = powE G a n := by
  unfold proE powE
  rw [if_neg (by simp), if_neg (by simp)]
  rfl

set_option maxRecDepth 100000 in
set_option maxHeartbeats 400000 in
theorem Power_none (k : Int) (hk : ¬ (1 ≤ k ∧ k ≤ 3)) (a n : ByteArray) (w : World) : Calls Tryz.prog 88 #[.int .i64 k, .string a, .string n] w (Ans (.string ⟨#[]⟩) 1 w) := by
  go_enter Tryz.func88, Tryz.ntmps88
  go_wp2_with fail
  have hz := (box2 w (.string a) (.string n) 9 9).1
  refine (Product_none k hk _ _ 1 1 1 1 _).mono ?_
  rintro e w1 ⟨rfl, hb⟩
  have HB := Lib.hid (below_up hz hb)
  clear hb hz
  go_wp2_with fail
  go_ret2
  exact ⟨rfl, HB.out⟩

theorem Sl.of_bx {W : World} {b : Nat} {t : TypeId} {cs : List Value} (h : Bx W b t cs) : Sl W W.heap.size (some ⟨b, 0, none⟩) cs := by
  have h1 := Sl.of_block h
  simpa using h1

set_option maxRecDepth 100000 in
set_option maxHeartbeats 400000 in
theorem Power_some (k : Nat) (h1 : 1 ≤ k) (h3 : k ≤ 3) (a n : ByteArray) (w : World) : Calls Tryz.prog 88 #[.int .i64 (k : Int), .string a, .string n] w (Ans (.string (powV (grp k) a n)) (powE (grp k) a n) w) := by
  go_enter Tryz.func88, Tryz.ntmps88
  go_wp2_with fail
  have hz := box2 w (.string a) (.string n) 9 9
  have hp := Product_some k h1 h3 [a] [n] (some ⟨w.heap.size, 0, none⟩) (some ⟨w.heap.size + 1, 0, none⟩) 1 1 1 1 rfl rfl _ (Sl.of_bx hz.2.1) (Sl.of_bx hz.2.2)
  rw [powV_eq, powE_eq] at hp
  refine hp.mono ?_
  rintro e w1 ⟨rfl, hb⟩
  have HB := Lib.hid (below_up hz.1 hb)
  clear hb hz hp
  go_wp2_with fail
  go_ret2
  exact ⟨rfl, HB.out⟩

end Go.Proofs.YtdlnnkbigeiilaaGreat

/- The group's numbers, in plain words: the lower of a number and its opposite. No condition. -/
namespace Go.Proofs.YtdlnnkbigeiilaaGreat

theorem grp_prime_q (k : Nat) (h1 : 1 ≤ k) (h3 : k ≤ 3) : IsPrime (grp k).q.m := by
  obtain rfl | rfl | rfl : k = 1 ∨ k = 2 ∨ k = 3 := by omega
  · exact prime_q1
  · exact prime_q2
  · exact prime_q3
theorem grp_prime_p (k : Nat) (h1 : 1 ≤ k) (h3 : k ≤ 3) : IsPrime (grp k).p.m := by
  obtain rfl | rfl | rfl : k = 1 ∨ k = 2 ∨ k = 3 := by omega
  · exact prime_p1
  · exact prime_p2
  · exact prime_p3

/-- Two numbers are one or opposite, modulo p. -/
def PM (p x y : Nat) : Prop := (p : Int) ∣ (x : Int) - y ∨ (p : Int) ∣ (x : Int) + y

theorem PM.refl (p x : Nat) : PM p x x := Or.inl ⟨0, by omega⟩
theorem PM.of_mod {p x y : Nat} (h : x % p = y % p) : PM p x y := Or.inl (by
  have h1 := Nat.div_add_mod x p
  have h2 := Nat.div_add_mod y p
  refine ⟨(x / p : Nat) - (y / p : Nat), ?_⟩
  have e1 : (x : Int) = p * (x / p : Nat) + (x % p : Nat) := by exact_mod_cast h1.symm
  have e2 : (y : Int) = p * (y / p : Nat) + (y % p : Nat) := by exact_mod_cast h2.symm
  rw [e1, e2, h]
  generalize ((x / p : Nat) : Int) = a
  generalize ((y / p : Nat) : Int) = b
  grind)
theorem PM.symm {p x y : Nat} (h : PM p x y) : PM p y x := by
  rcases h with ⟨c, h⟩ | ⟨c, h⟩
  · exact Or.inl ⟨-c, by grind⟩
  · exact Or.inr ⟨c, by grind⟩
theorem PM.trans {p x y z : Nat} (h : PM p x y) (g : PM p y z) : PM p x z := by
  rcases h with ⟨c, h⟩ | ⟨c, h⟩ <;> rcases g with ⟨d, g⟩ | ⟨d, g⟩
  · exact Or.inl ⟨c + d, by grind⟩
  · exact Or.inr ⟨c + d, by grind⟩
  · exact Or.inr ⟨c - d, by grind⟩
  · exact Or.inl ⟨c - d, by grind⟩
theorem PM.mul {p x y u v : Nat} (h : PM p x y) (g : PM p u v) : PM p (x * u) (y * v) := by
  have e1 : ((x * u : Nat) : Int) = x * u := by simp
  have e2 : ((y * v : Nat) : Int) = y * v := by simp
  unfold PM
  rw [e1, e2]
  rcases h with ⟨c, h⟩ | ⟨c, h⟩ <;> rcases g with ⟨d, g⟩ | ⟨d, g⟩
  · exact Or.inl ⟨c * u + y * d, by grind⟩
  · exact Or.inr ⟨c * u + y * d, by grind⟩
  · exact Or.inr ⟨c * u - y * d, by grind⟩
  · exact Or.inl ⟨c * u - y * d, by grind⟩
theorem PM.pow {p x y : Nat} (h : PM p x y) : ∀ n : Nat, PM p (x ^ n) (y ^ n)
  | 0 => PM.refl _ _
  | n + 1 => by rw [Nat.pow_succ, Nat.pow_succ]; exact PM.mul (PM.pow h n) h
theorem PM.mod (p x : Nat) : PM p (x % p) x := PM.of_mod (Nat.mod_mod _ _)

theorem lowR_pm (q p x : Nat) (hx : x < p) : PM p (lowR q p x) x := by
  unfold lowR
  split
  · exact Or.inr ⟨1, by omega⟩
  · exact PM.refl _ _
theorem lowR_leq {q p x : Nat} (hp : p = 2 * q + 1) (hx : x < p) : lowR q p x ≤ q := by
  unfold lowR
  split <;> omega
theorem lowR_fix {q p x : Nat} (hx : x ≤ q) : lowR q p x = x := by
  unfold lowR
  rw [if_neg (by omega)]
theorem lowR_pos {q p x : Nat} (hx : x < p) (h0 : 0 < x) : 0 < lowR q p x := by
  unfold lowR
  split <;> omega

/-- Low numbers that are one or opposite are one. -/
theorem low_unique {q p x y : Nat} (hp : p = 2 * q + 1) (hx : x ≤ q) (hy : y ≤ q) (h : PM p x y) : x = y := by
  rcases h with h | h
  · have := Int.eq_zero_of_dvd_of_natAbs_lt_natAbs h (by omega)
    omega
  · have := Int.eq_zero_of_dvd_of_natAbs_lt_natAbs h (by omega)
    omega

theorem low_eq {q p x y : Nat} (hq : 0 < q) (hp : p = 2 * q + 1) (h : PM p x y) : lowR q p (x % p) = lowR q p (y % p) := by
  have hx := Nat.mod_lt x (show 0 < p by omega)
  have hy := Nat.mod_lt y (show 0 < p by omega)
  exact low_unique hp (lowR_leq hp hx) (lowR_leq hp hy) ((((lowR_pm q p _ hx).trans (PM.mod p x)).trans h).trans (((lowR_pm q p _ hy).trans (PM.mod p y)).symm))

theorem pm_low {q p : Nat} (hp : 0 < p) (x : Nat) : PM p (lowR q p (x % p)) x := (lowR_pm q p _ (Nat.mod_lt x hp)).trans (PM.mod p x)

/-- Fermat and Euler: a to the q is 1 or its opposite. -/
theorem pm_euler {q p a : Nat} (hpp : IsPrime p) (hp : p = 2 * q + 1) (h0 : 0 < a) (ha : a < p) : PM p (a ^ q) 1 := by
  have hnd : ¬ p ∣ a := fun h => by have := Nat.le_of_dvd h0 h; omega
  have hf := fermat hpp hnd
  rw [show p - 1 = q * 2 by omega, Nat.pow_mul] at hf
  obtain ⟨b, hb⟩ : ∃ b, a ^ q = b := ⟨_, rfl⟩
  rw [hb] at hf ⊢
  have hb0 : 0 < b := by rw [← hb]; exact Nat.pow_pos h0
  have h2 : p ∣ b ^ 2 - 1 := (mod_eq_iff_dvd_sub (Nat.pow_pos hb0)).1 hf
  have h3 : b ^ 2 - 1 = (b - 1) * (b + 1) := by
    obtain ⟨c, rfl⟩ : ∃ c, b = c + 1 := ⟨b - 1, by omega⟩
    rw [Nat.add_sub_cancel, Nat.pow_two]
    have : (c + 1) * (c + 1) = c * (c + 1 + 1) + 1 := by grind
    omega
  rw [h3] at h2
  rcases hpp.dvd_mul h2 with ⟨c, h⟩ | ⟨c, h⟩
  · refine Or.inl ⟨c, ?_⟩
    have : ((b - 1 : Nat) : Int) = p * c := by rw [h]; simp
    omega
  · refine Or.inr ⟨c, ?_⟩
    have : ((b + 1 : Nat) : Int) = p * c := by rw [h]; simp
    omega

theorem under_low {q p a : Nat} (hpp : IsPrime p) (hp : p = 2 * q + 1) (hq : 0 < q) (h0 : 0 < a) (ha : a ≤ q) : lowR q p (a ^ (p - 2) % p) = lowR q p (a ^ (q - 1) % p) := by
  refine low_eq hq hp ?_
  rw [show p - 2 = q + (q - 1) by omega, Nat.pow_add]
  have h := PM.mul (pm_euler hpp hp h0 (by omega)) (PM.refl p (a ^ (q - 1)))
  rwa [Nat.one_mul] at h

theorem low_mul {q p : Nat} (hq : 0 < q) (hp : p = 2 * q + 1) (x y : Nat) : lowR q p (lowR q p (x % p) * lowR q p (y % p) % p) = lowR q p (x * y % p) :=
  low_eq hq hp (PM.mul (pm_low (by omega) x) (pm_low (by omega) y))

end Go.Proofs.YtdlnnkbigeiilaaGreat

/- Numbers in so many bytes, there and back; the group's faces on such texts. No condition. -/
namespace Go.Proofs.YtdlnnkbigeiilaaGreat
open Go.RowKit

theorem numL_inj : ∀ l m : List UInt8, l.length = m.length → numL l = numL m → l = m
  | [], [], _, _ => rfl
  | [], _ :: _, h, _ => by simp at h
  | _ :: _, [], h, _ => by simp at h
  | a :: l, b :: m, h, e => by
    have hl : l.length = m.length := by simpa using h
    have h1 := numL_lt l
    have h2 := numL_lt m
    simp only [numL] at e
    rw [hl] at e h1
    have hP : 0 < 256 ^ m.length := Nat.pow_pos (by decide)
    have hd := congrArg (· / 256 ^ m.length) e
    have hm := congrArg (· % 256 ^ m.length) e
    simp only [Nat.mul_comm _ (256 ^ m.length), Nat.mul_add_div hP, Nat.mul_add_mod, Nat.div_eq_of_lt h1, Nat.div_eq_of_lt h2, Nat.mod_eq_of_lt h1, Nat.mod_eq_of_lt h2, Nat.add_zero] at hd hm
    rw [numL_inj l m hl hm, UInt8.toNat_inj.1 hd]

theorem numOf_inj {s t : ByteArray} (h : s.size = t.size) (e : numOf s = numOf t) : s = t := by
  have h1 := numL_inj s.data.toList t.data.toList (by simpa using h) e
  cases s; cases t
  simp at h1
  rw [h1]

theorem text_numOf (s : ByteArray) : textS (numOf s) s.size = s := by
  refine numOf_inj (textS_size _ _) ?_
  rw [numOf_textS]
  exact Nat.mod_eq_of_lt (by have := numL_lt s.data.toList; simpa [numOf] using this)

/-- A number as a text of the group. -/
def T (G : GP) (n : Nat) : ByteArray := textS n G.size

theorem T_size (G : GP) (n : Nat) : (T G n).size = G.size := textS_size _ _
theorem T_num {G : GP} (_ok : G.Ok) {n : Nat} (h : n ≤ G.q.m) (hne : G.q.m < 256 ^ G.size) : numOf (T G n) = n := by
  unfold T
  rw [numOf_textS]
  exact Nat.mod_eq_of_lt (by omega)

theorem T_of {G : GP} {s : ByteArray} (h : s.size = G.size) : s = T G (numOf s) := by
  unfold T
  rw [← h]
  exact (text_numOf s).symm

theorem T_sc {G : GP} (ok : G.Ok) (hne : G.q.m < 256 ^ G.size) {n : Nat} (h : n < G.q.m) : isSc G.q.m G.size (T G n) = true := by
  unfold isSc
  rw [T_size, T_num ok (Nat.le_of_lt h) hne]
  simp [h]
theorem T_el {G : GP} (ok : G.Ok) (hne : G.q.m < 256 ^ G.size) {n : Nat} (h0 : 0 < n) (h : n ≤ G.q.m) : isEl G.q.m G.size (T G n) = true := by
  unfold isEl
  rw [T_size, T_num ok h hne]
  simp [h, h0]

theorem grp_fits (k : Nat) (h1 : 1 ≤ k) (h3 : k ≤ 3) : (grp k).q.m < 256 ^ (grp k).size := by
  obtain rfl | rfl | rfl : k = 1 ∨ k = 2 ∨ k = 3 := by omega
  all_goals decide


theorem recV_t {k : Nat} (h1 : 1 ≤ k) (h3 : k ≤ 3) {x y z r : Nat} (hx : x < (grp k).q.m) (hy : y < (grp k).q.m) (hr : z % (grp k).q.m = r) : recV (grp k) (T (grp k) x) (T (grp k) y) z = T (grp k) r := by
  unfold recV
  rw [T_sc (grp_ok k h1 h3) (grp_fits k h1 h3) hx, T_sc (grp_ok k h1 h3) (grp_fits k h1 h3) hy, hr]
  rfl
theorem recE_t {k : Nat} (h1 : 1 ≤ k) (h3 : k ≤ 3) {x y : Nat} (hx : x < (grp k).q.m) (hy : y < (grp k).q.m) : recE (grp k) (T (grp k) x) (T (grp k) y) = 0 := by
  unfold recE
  rw [T_sc (grp_ok k h1 h3) (grp_fits k h1 h3) hx, T_sc (grp_ok k h1 h3) (grp_fits k h1 h3) hy]
  rfl

theorem scal_t (k : Nat) (h1 : 1 ≤ k) (h3 : k ≤ 3) (x : Nat) (hx : x < (grp k).q.m) (w : World) : Calls Tryz.prog 85 #[.int .i64 (k : Int), .string (T (grp k) x)] w fun e w' => e = .returned (.bool true) ∧ Below w.heap.size w w' := by
  have h9 := Scalar_some k h1 h3 (T (grp k) x) w
  rwa [T_sc (grp_ok k h1 h3) (grp_fits k h1 h3) hx] at h9

end Go.Proofs.YtdlnnkbigeiilaaGreat

/- The group's faces on texts of elements; what powers of elements are. No condition. -/
namespace Go.Proofs.YtdlnnkbigeiilaaGreat
open Go.RowKit

/-- The element that a number stands for. -/
def Lw (q p v : Nat) : Nat := lowR q p (v % p)

section
variable {q p : Nat} (hq : 0 < q) (hp : p = 2 * q + 1)
include hq hp
theorem Lw_eq {x y : Nat} (h : PM p x y) : Lw q p x = Lw q p y := low_eq hq hp h
omit hq in
theorem Lw_pm (x : Nat) : PM p (Lw q p x) x := pm_low (by omega) x
omit hq in
theorem Lw_le (x : Nat) : Lw q p x ≤ q := lowR_leq hp (Nat.mod_lt _ (by omega))
omit hq in
theorem Lw_fix {x : Nat} (h : x ≤ q) : Lw q p x = x := by
  unfold Lw
  rw [Nat.mod_eq_of_lt (by omega), lowR_fix h]
omit hq in
theorem Lw_pos {x : Nat} (h : ¬ p ∣ x) : 0 < Lw q p x := by
  unfold Lw
  refine lowR_pos (Nat.mod_lt _ (by omega)) ?_
  rcases Nat.eq_zero_or_pos (x % p) with h0 | h0
  · exact absurd (Nat.dvd_of_mod_eq_zero h0) h
  · exact h0
end

theorem IsPrime.not_dvd_mul {p a b : Nat} (hp : IsPrime p) (ha : ¬ p ∣ a) (hb : ¬ p ∣ b) : ¬ p ∣ a * b := fun h => (hp.dvd_mul h).elim ha hb
theorem IsPrime.not_dvd_pow {p a : Nat} (hp : IsPrime p) (ha : ¬ p ∣ a) : ∀ n, ¬ p ∣ a ^ n
  | 0 => fun h => by rw [Nat.pow_zero] at h; have := Nat.le_of_dvd (by decide) h; have := hp.1; omega
  | n + 1 => by rw [Nat.pow_succ]; exact hp.not_dvd_mul (IsPrime.not_dvd_pow hp ha n) ha
theorem not_dvd_small {p a : Nat} (h0 : 0 < a) (h : a < p) : ¬ p ∣ a := fun hd => by have := Nat.le_of_dvd h0 hd; omega

/-- Powers of an element go by the order. -/
theorem pm_pow_mod {q p a : Nat} (hpp : IsPrime p) (hp : p = 2 * q + 1) (h0 : 0 < a) (ha : a < p) (n : Nat) : PM p (a ^ (n % q)) (a ^ n) := by
  have h1 : a ^ n = a ^ (n % q) * (a ^ q) ^ (n / q) := by
    rw [← Nat.pow_mul, ← Nat.pow_add, Nat.mod_add_div]
  rw [h1]
  have h2 := PM.mul (PM.refl p (a ^ (n % q))) ((pm_euler hpp hp h0 ha).pow (n / q))
  rw [Nat.one_pow, Nat.mul_one] at h2
  exact h2.symm

theorem memb_t (k : Nat) (h1 : 1 ≤ k) (h3 : k ≤ 3) (x : Nat) (h0 : 0 < x) (hx : x ≤ (grp k).q.m) (w : World) : Calls Tryz.prog 87 #[.int .i64 (k : Int), .string (T (grp k) x)] w fun e w' => e = .returned (.bool true) ∧ Below w.heap.size w w' := by
  have h9 := Member_some k h1 h3 (T (grp k) x) w
  rwa [T_el (grp_ok k h1 h3) (grp_fits k h1 h3) h0 hx] at h9

theorem timV_t {k : Nat} (h1 : 1 ≤ k) (h3 : k ≤ 3) {x y r : Nat} (h0 : 0 < x) (hx : x ≤ (grp k).q.m) (g0 : 0 < y) (hy : y ≤ (grp k).q.m) (hr : Lw (grp k).q.m (grp k).p.m (x * y) = r) : timV (grp k) (T (grp k) x) (T (grp k) y) = T (grp k) r ∧ timE (grp k) (T (grp k) x) (T (grp k) y) = 0 := by
  unfold timV timE
  rw [T_el (grp_ok k h1 h3) (grp_fits k h1 h3) h0 hx, T_el (grp_ok k h1 h3) (grp_fits k h1 h3) g0 hy, T_num (grp_ok k h1 h3) hx (grp_fits k h1 h3), T_num (grp_ok k h1 h3) hy (grp_fits k h1 h3)]
  exact ⟨congrArg (textS · _) hr, rfl⟩
theorem powV_t {k : Nat} (h1 : 1 ≤ k) (h3 : k ≤ 3) {x n r : Nat} (h0 : 0 < x) (hx : x ≤ (grp k).q.m) (hn : n < (grp k).q.m) (hr : Lw (grp k).q.m (grp k).p.m (x ^ n) = r) : powV (grp k) (T (grp k) x) (T (grp k) n) = T (grp k) r ∧ powE (grp k) (T (grp k) x) (T (grp k) n) = 0 := by
  unfold powV powE
  rw [T_el (grp_ok k h1 h3) (grp_fits k h1 h3) h0 hx, T_sc (grp_ok k h1 h3) (grp_fits k h1 h3) hn, T_num (grp_ok k h1 h3) hx (grp_fits k h1 h3), T_num (grp_ok k h1 h3) (Nat.le_of_lt hn) (grp_fits k h1 h3)]
  exact ⟨congrArg (textS · _) hr, rfl⟩

theorem power_t (k : Nat) (h1 : 1 ≤ k) (h3 : k ≤ 3) (x n r : Nat) (h0 : 0 < x) (hx : x ≤ (grp k).q.m) (hn : n < (grp k).q.m) (hr : Lw (grp k).q.m (grp k).p.m (x ^ n) = r) (w : World) : Calls Tryz.prog 88 #[.int .i64 (k : Int), .string (T (grp k) x), .string (T (grp k) n)] w (Ans (.string (T (grp k) r)) 0 w) := by
  have h9 := Power_some k h1 h3 (T (grp k) x) (T (grp k) n) w
  obtain ⟨e1, e2⟩ := powV_t h1 h3 h0 hx hn hr
  rwa [e1, e2] at h9
end Go.Proofs.YtdlnnkbigeiilaaGreat
