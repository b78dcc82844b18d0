/- Slices that the call itself makes, appended to: laws for the walks of this seat. No condition beyond those that each names. -/
import Derived.Test.YtdmldnpadojflaaBase
import Derived.Deep.AppendLies
import Derived.Laws.AppendOwnNone
import Derived.StillTailTactics
namespace Go.Proofs.Ytdmldnpadojflaa
open Go.RowKit

/-- From w to w', by an append to the slice v, which now begins at block g: v's own row or a new block holds it; all else that was there is as it was. -/
structure Pushed (w w' : World) (v : Value) (g : Nat) : Prop where
  grown : w.grownBy w' v.ownBlock
  here : v.ownBlock = some g ∨ w.heap.size ≤ g
  lt : g < w'.heap.size

/-- Two slices of the call's own lie in rows of their own. -/
def Apart (a b : Value) : Prop := ∀ q, a.ownBlock = some q → b.ownBlock ≠ some q

theorem Apart.symm {a b : Value} (h : Apart a b) : Apart b a := fun q hq e => h q e hq
theorem Apart.nil_left (b : Value) : Apart (.slice none 0 0) b := fun q hq => by simp [Value.ownBlock] at hq
theorem Apart.nil_right (b : Value) : Apart b (.slice none 0 0) := (Apart.nil_left b).symm

section
variable {w w' : World} {u v : Value} {g base e k n c m : Nat} {xs : List Value}

theorem Pushed.size (h : Pushed w w' v g) : w.heap.size ≤ w'.heap.size := h.grown.size

theorem Pushed.below {W : World} {B : Nat} (h : Pushed w w' v g) (hb : Below B W w) (hB : B ≤ w.heap.size) (hv : ∀ q, v.ownBlock = some q → B ≤ q) : Below B W w' :=
  hb.grown h.grown hB hv

/-- Another slice of the call's own is as it was. -/
theorem Pushed.keep (h : Pushed w w' v g) (hu : w.ownsRow base e k u n xs) (ha : Apart v u) : w'.ownsRow base e k u n xs := by
  refine hu.kept h.grown ?_
  cases hq : u.ownBlock with
  | none => exact Or.inl rfl
  | some q => exact Or.inr (fun e => ha q e.symm hq)

theorem Pushed.apart (h : Pushed w w' v g) (hu : w.ownsRow base e k u n xs) (ha : Apart v u) : Apart (.slice (some ⟨g, 0, none⟩) m c) u := by
  intro q hq e2
  have hq' : g = q := by simpa [Value.ownBlock] using hq
  subst hq'
  rcases h.here with h1 | h1
  · exact ha _ h1 e2
  · have := (hu.lt _ e2).2; omega

/-- The blocks of the slice lie from B on. -/
theorem Pushed.from_ {B : Nat} (h : Pushed w w' v g) (hB : B ≤ w.heap.size) (hv : ∀ q, v.ownBlock = some q → B ≤ q) : ∀ q, (Value.slice (some ⟨g, 0, none⟩) m c).ownBlock = some q → B ≤ q := by
  intro q hq
  have hq' : g = q := by simpa [Value.ownBlock] using hq
  subst hq'
  rcases h.here with h1 | h1
  · exact hv _ h1
  · omega

/-- A block that is not the slice's own row is as it was. -/
theorem Pushed.block (h : Pushed w w' v g) {q : Nat} (hq : q < w.heap.size) (hv : v.ownBlock ≠ some q) : w'.heap[q]? = w.heap[q]? :=
  h.grown.block q hq (fun e => hv e.symm)

end

/-- From w to w', by an append to the slice v, which is now v'. -/
structure Grew (w w' : World) (v v' : Value) : Prop where
  grown : w.grownBy w' v.ownBlock
  here : ∀ q, v'.ownBlock = some q → v.ownBlock = some q ∨ w.heap.size ≤ q

section
variable {w w' : World} {u v v' : Value} {base e k n m : Nat} {xs : List Value}
theorem Grew.refl (w : World) (v : Value) : Grew w w v v := ⟨⟨rfl, rfl, rfl, Nat.le_refl _, fun _ _ _ => rfl⟩, fun _ h => Or.inl h⟩
theorem Grew.below {W : World} {B : Nat} (h : Grew w w' v v') (hb : Below B W w) (hB : B ≤ w.heap.size) (hv : ∀ q, v.ownBlock = some q → B ≤ q) : Below B W w' := hb.grown h.grown hB hv
theorem Grew.keep (h : Grew w w' v v') (hu : w.ownsRow base e k u n xs) (ha : Apart v u) : w'.ownsRow base e k u n xs := by
  refine hu.kept h.grown ?_
  cases hq : u.ownBlock with
  | none => exact Or.inl rfl
  | some q => exact Or.inr (fun e => ha q e.symm hq)
theorem Grew.apart (h : Grew w w' v v') (hu : w.ownsRow base e k u n xs) (ha : Apart v u) : Apart v' u := by
  intro q hq e2
  rcases h.here q hq with h1 | h1
  · exact ha _ h1 e2
  · have := (hu.lt _ e2).2; omega
theorem Grew.from_ {B : Nat} (h : Grew w w' v v') (hB : B ≤ w.heap.size) (hv : ∀ q, v.ownBlock = some q → B ≤ q) : ∀ q, v'.ownBlock = some q → B ≤ q := by
  intro q hq
  rcases h.here q hq with h1 | h1
  · exact hv _ h1
  · omega
theorem Pushed.grew {g c : Nat} (h : Pushed w w' v g) : Grew w w' v (.slice (some ⟨g, 0, none⟩) m c) :=
  ⟨h.grown, fun q hq => by have hq' : g = q := by simpa [Value.ownBlock] using hq
                           subst hq'; exact h.here⟩
theorem Pushed.of_drew {g : Nat} (h : Pushed w.drew w' v g) : Pushed w w' v g := ⟨⟨h.grown.os, h.grown.tape, h.grown.output, h.grown.size, h.grown.block⟩, h.here, h.lt⟩
end

/-- 'out = append(out, more...)': both are slices of the call's own. -/
theorem wpList_join {P : Program} (w : World) {ops : Array Oper} {rest : List Oper} {o : Oper} {a : Act} {Q : Exit → Act → World → Prop} (hgd : o.guard = none) (s x : Operand) (t : TypeId)
    (ho : o.op = .call { callee := .builtin .append, args := #[s, x], argTypes := #[t, t] })
    (e : TypeId) (i : TypeInfo) (z : Value) (size bytes : Nat) (ht : P.underlying t = some (.slice e)) (hi : P.info? e = some i) (hz : i.zero = some z)
    (hsize : i.size = size) (hby : i.bytes = bytes) (hzs : z.cells.size = size) (hsz : 0 < size)
    (v : Value) (n : Nat) (xs : List Value) (hs : a.eval s = v) (hown : w.ownsRow 0 e size v n xs)
    (u : Value) (m : Nat) (ys : List Value) (hx : a.eval x = u) (hu : w.ownsRow 0 e size u m ys) (h1 : ∀ u ∈ ys, u.oneCell' = true)
    (h63 : (n + m) * bytes ≤ 140737488355328) (hn : n + m ≤ maxLen)
    (h : ∀ v' w', w'.ownsRow 0 e size v' (n + m) (xs ++ ys) → Grew w w' v v' → wpList P ops Q rest (a.put o.dst v') w') :
    wpList P ops Q (o :: rest) a w := by
  rcases hu.2 with ⟨hu0, hm0⟩ | ⟨g, cap, cur, hug, _, hgg, _⟩
  · subst hu0; subst hm0
    have hys : ys = [] := by have := hu.1; exact List.length_eq_zero_iff.1 (by simpa using this)
    subst hys
    refine wpList_append_own_none hgd s x t ho 0 e i size ht hi v n xs hs hown hx ?_
    exact h v w (by simpa using hown) (Grew.refl _ _)
  · subst hug
    refine wpList_plain hgd fun K hK => ?_
    obtain ⟨v', w', hr, h2, h3, _, h5⟩ := run_append_own_at (P := P) w 0 t o.type e i z size bytes ht hi hz hsize hby hzs hsz v n xs hown ⟨g, 0, none⟩ m cap ys hu.1 (hu.cells (g := g) rfl) h1 hn h63 (Nat.zero_le _)
    unfold Oper.wp execOp
    simp only [ho, resolve, invoke, builtin, Sem.run_bind, Sem.run_pure, Result.andThen_ok, List.map_toArray, List.map_cons, List.map_nil, hs, hx, hr]
    refine hK _ _ (h v' w' h2 ⟨h3, fun q hq => ?_⟩)
    rcases h5 with h5 | h5
    · exact Or.inl (h5 ▸ hq)
    · right; rw [h5] at hq; simp at hq; omega

/-- 'out = append(out, x)': x has just been laid into a block of its own. -/
theorem wpList_push {P : Program} (w0 : World) {ops : Array Oper} {rest : List Oper} {o : Oper} {a : Act} {Q : Exit → Act → World → Prop} (hgd : o.guard = none) (s x : Operand) (t : TypeId)
    (ho : o.op = .call { callee := .builtin .append, args := #[s, x], argTypes := #[t, t] })
    (e : TypeId) (i : TypeInfo) (z : Value) (size bytes : Nat) (ht : P.underlying t = some (.slice e)) (hi : P.info? e = some i) (hz : i.zero = some z)
    (hsize : i.size = size) (hby : i.bytes = bytes) (hzs : z.cells.size = size) (hsz : 0 < size)
    (v : Value) (n : Nat) (xs : List Value) (hs : a.eval s = v) (hown : w0.ownsRow 0 e size v n xs)
    (news : Array Value) (e2 : TypeId) (b : Nat) (hb : w0.heap.size = b) (hx : a.eval x = .slice (some ⟨b, 0, none⟩) 1 1) (hl : news.size = size) (h1 : ∀ u ∈ news.toList, u.oneCell' = true)
    (h63 : (n + 1) * bytes ≤ 140737488355328) (hn : n + 1 ≤ maxLen)
    (h : ∀ g cap w', w'.ownsRow 0 e size (.slice (some ⟨g, 0, none⟩) (n + 1) cap) (n + 1) (xs ++ news.toList) → Pushed w0 w' v g → wpList P ops Q rest (a.put o.dst (.slice (some ⟨g, 0, none⟩) (n + 1) cap)) w') :
    wpList P ops Q (o :: rest) a (w0.alloc (.cells news e2)) := by
  subst hb
  refine wpList_append_lies _ hgd s x t ho 0 e i z size bytes ht hi hz hsize hby hzs hsz v n xs hs (hown.alloc _) ⟨w0.heap.size, 0, none⟩ 1 1 news.toList hx (by simpa using hl)
    (World.news_of_block (heap_alloc_new w0 _)) h1 (by omega) hn h63 (Nat.zero_le _) _ rfl ?_
  intro g cap w' hown' hg hat hlt
  refine h g cap w' hown' ⟨⟨hg.os, hg.tape, hg.output, ?_, ?_⟩, ?_, hlt⟩
  · have := hg.size; simp at this; omega
  · intro k hk hne
    rw [hg.block k (by simp; omega) hne]
    exact Below.heap_alloc _ _ _ hk
  · rcases hat with h1 | h1
    · exact Or.inl h1
    · right; simp at h1; omega

/-! A region that draws its order: first operations that only read, then the others in a forced order. -/
theorem still_of_quiet {P : Program} {ops : Array Oper} {w : World} {Q : Act → Prop} : ∀ (l : List Oper) (a : Act), wpQuiet P ops (fun w' => w' = w) Q l a → wpStill P ops w Q l a
  | [], _, h => h
  | o :: l, a, h => by
    unfold wpQuiet at h
    unfold wpStill
    by_cases hw : Region.wanted o (yielded ops a.tmps) = true
    · rw [if_pos hw] at h ⊢
      obtain ⟨v, h1, h2⟩ := h
      have h3 := h1 w rfl
      have ih := still_of_quiet l _ h2
      unfold Oper.quietAt at h3
      unfold Oper.still
      generalize (execOp a.eval o).run P w = r at *
      cases r with
      | ok n w' =>
        cases n <;> simp only [Oper.quietUpon] at h3 <;> simp only [Oper.stillUpon]
        case value u => obtain ⟨rfl, rfl⟩ := h3; exact ⟨rfl, ih⟩
        case skip => obtain ⟨rfl, rfl⟩ := h3; exact ⟨rfl, ih⟩
        case enter f args => obtain ⟨rfl, hc⟩ := h3; exact ⟨rfl, v, hc, ih⟩
      | halt x w' => simp only [Oper.quietUpon] at h3
    · rw [if_neg hw] at h ⊢
      exact still_of_quiet l _ h

theorem wp_region_tail {P : Program} {id : Nat} {Q : Exit → Act → World → Prop} {a : Act} {w : World} {l : List Oper} (n : Nat) (hm : P.follows .mixedOrders = true) (hB : Region.lexTailB .any l.toArray n = true)
    (h : wpQuiet P l.toArray (fun w' => w' = w.drew) (fun a' => wpList P l.toArray Q (l.drop n) a' w.drew) (l.take n) a) : (Code.region id l.toArray true).wp P Q a w :=
  wp_region_still_tail n hm hB (still_of_quiet _ _ h)

end Go.Proofs.Ytdmldnpadojflaa
