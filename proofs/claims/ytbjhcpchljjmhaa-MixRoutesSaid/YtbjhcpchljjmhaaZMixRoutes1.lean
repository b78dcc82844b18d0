/- Texts of this seat, one behind the other: what MixRoutes leans on. No condition beyond those that each names. -/
import Derived.WalkKit
import Derived.WalkSpells
import Derived.WalkLawsBesides
import Derived.Lib.Hide
import Derived.BigQuiet
import Derived.Deep.AppendLies
import Derived.Laws.AppendOwnNone
import Derived.StillTailTactics
import Derived.OrdersHeld
import Derived.Test.YtbjhcpchljjmhaaProg
import Derived.Deep.LoopGhost
import Derived.BigRegion
import Derived.Laws.MakeOwn
import Derived.Shelf.Spec.SlicesGrow

/- Small facts on worlds for the walks of this seat. No condition beyond those that each fact names. -/
namespace Go.Proofs.Ytbjhcpchljjmhaa
open Go.RowKit

/-- All old cells and all old marks read as before. -/
theorem bcell {W w1 : World} {B : Nat} (hb : Below B W w1) : (∀ b o, b < B → w1.cell? ⟨b, o, none⟩ = W.cell? ⟨b, o, none⟩) ∧ (∀ b o, b < B → w1.frozen? ⟨b, o, none⟩ = W.frozen? ⟨b, o, none⟩) :=
  ⟨fun b o h => hb.cell (p := ⟨b, o, none⟩) h, fun b o h => hb.frozen (p := ⟨b, o, none⟩) h⟩

theorem below_up {W w w1 : World} (h : Below W.heap.size W w) (h1 : Below w.heap.size w w1) : Below W.heap.size W w1 :=
  h.trans (h1.mono h.size)

theorem below_grown {w w' : World} (h : Below w.heap.size w w') : w.grownBy w' none :=
  ⟨h.os, h.tape, h.output, h.size, fun k hk _ => h.block k hk⟩

theorem ret_int {k : IntKind} {a b : Int} (h : a = b) : Ending.returned (.int k a) = .returned (.int k b) := by rw [h]
theorem ret_bool {a b : Bool} (h : a = b) : Ending.returned (.bool a) = .returned (.bool b) := by rw [h]

/-- A slice value of one-cell elements, read in a world below block B: its n elements are cs. -/
def Sl (w : World) (B : Nat) (a : Option Addr) (cs : List Value) : Prop :=
  cs = [] ∨ ∃ b off, a = some ⟨b, off, none⟩ ∧ b < B ∧ ∀ i v, cs[i]? = some v → w.cell? ⟨b, off + i, none⟩ = some v

theorem Sl.at {w : World} {B : Nat} {a : Option Addr} {cs : List Value} (h : Sl w B a cs) (i : Nat) (hi : i < cs.length) :
    ∃ b off, a = some ⟨b, off, none⟩ ∧ b < B ∧ w.cell? ⟨b, off + i, none⟩ = some cs[i] := by
  rcases h with rfl | ⟨b, off, rfl, hb, hc⟩
  · simp at hi
  · exact ⟨b, off, rfl, hb, hc i _ (List.getElem?_eq_getElem hi)⟩

theorem Sl.below {w w1 : World} {B : Nat} {a : Option Addr} {cs : List Value} (h : Sl w B a cs) (hb : Below B w w1) : Sl w1 B a cs := by
  rcases h with rfl | ⟨b, off, rfl, hB, hc⟩
  · exact Or.inl rfl
  · exact Or.inr ⟨b, off, rfl, hB, fun i v hv => by rw [hb.cell (p := ⟨b, off + i, none⟩) hB]; exact hc i v hv⟩

/-! A region that draws its order, whose operations only read, and whose callees only make memory: one walk, in the order of the text. -/
structure Over (W : World) where
  w : World
  h : Below W.heap.size W w

instance (W : World) : Nonempty (Over W) := ⟨⟨W, Below.refl _ _⟩⟩

theorem Over.cell {W : World} (E : Over W) {b : Nat} (o : Nat) (h : b < W.heap.size) : E.w.cell? ⟨b, o, none⟩ = W.cell? ⟨b, o, none⟩ := E.h.cell (p := ⟨b, o, none⟩) h

theorem wp_region_over {P : Program} {id : Nat} {Q : Exit → Act → World → Prop} {a : Act} {w : World} {l : List Oper} (hm : P.follows .mixedOrders = true) (hB : Region.lexB .any l.toArray = true)
    (h : wpQuiet P l.toArray (fun w' => ∃ E : Over w, w' = E.w) (fun a' => ∀ w', (∃ E : Over w, w' = E.w) → Q .normal a' w') l a) : (Code.region id l.toArray true).wp P Q a w :=
  wp_region_quiet (C := fun w' => ∃ E : Over w, w' = E.w) hm hB ⟨⟨_, (Below.refl _ _).drew⟩, rfl⟩ (by simpa using h)

/-- A callee's contract, met in a world over W. -/
theorem calls_over {P : Program} {f : FuncId} {args : Array Value} {W : World} {E : Over W} {v : Value}
    (h : Calls P f args E.w fun e w' => e = .returned v ∧ Below E.w.heap.size E.w w') : Calls P f args E.w fun e w'' => e = .returned v ∧ ∃ E' : Over W, w'' = E'.w :=
  h.mono fun _ w' ⟨he, hb⟩ => ⟨he, ⟨w', below_up E.h hb⟩, rfl⟩

theorem Sl.mono {w : World} {B B' : Nat} {a : Option Addr} {cs : List Value} (h : Sl w B a cs) (hB : B ≤ B') : Sl w B' a cs := by
  rcases h with rfl | ⟨b, off, rfl, hb, hc⟩
  · exact Or.inl rfl
  · exact Or.inr ⟨b, off, rfl, by omega, hc⟩

theorem Sl.up {W w : World} {a : Option Addr} {cs : List Value} (h : Sl W W.heap.size a cs) (hb : Below W.heap.size W w) : Sl w w.heap.size a cs :=
  (h.below hb).mono hb.size

theorem Sl.of_block {w : World} {b : Nat} {cs : Array Value} {t : TypeId} {fr : Nat × Nat} (h : w.heap[b]? = some (.cells cs t fr)) : Sl w w.heap.size (some ⟨b, 0, none⟩) cs.toList := by
  refine Or.inr ⟨b, 0, rfl, (Array.getElem?_eq_some_iff.1 h).1, fun i v hv => ?_⟩
  simp only [World.cell?, h]
  simpa using hv

theorem Sl.draw {w : World} {B : Nat} {a : Option Addr} {cs : List Value} (h : Sl w B a cs) : Sl w.drew B a cs := h

end Go.Proofs.Ytbjhcpchljjmhaa

/- Slices that the call itself makes, appended to: laws for the walks of this seat. No condition beyond those that each names. -/
namespace Go.Proofs.Ytbjhcpchljjmhaa
open Go.RowKit

/-- From w to w', by an append to the slice v, which now begins at block g: v's own row or a new block holds it; all else that was there is as it was. -/
structure Pushed (w w' : World) (v : Value) (g : Nat) : Prop where
  grown : w.grownBy w' v.ownBlock
  here : v.ownBlock = some g ∨ w.heap.size ≤ g
  lt : g < w'.heap.size

/-- Two slices of the call's own lie in rows of their own. -/
def Apart (a b : Value) : Prop := ∀ q, a.ownBlock = some q → b.ownBlock ≠ some q

theorem Apart.symm {a b : Value} (h : Apart a b) : Apart b a := fun q hq e => h q e hq
theorem Apart.nil_left (b : Value) : Apart (.slice none 0 0) b := fun q hq => by simp [Value.ownBlock] at hq
theorem Apart.nil_right (b : Value) : Apart b (.slice none 0 0) := (Apart.nil_left b).symm

section
variable {w w' : World} {u v : Value} {g base e k n c m : Nat} {xs : List Value}

theorem Pushed.size (h : Pushed w w' v g) : w.heap.size ≤ w'.heap.size := h.grown.size

theorem Pushed.below {W : World} {B : Nat} (h : Pushed w w' v g) (hb : Below B W w) (hB : B ≤ w.heap.size) (hv : ∀ q, v.ownBlock = some q → B ≤ q) : Below B W w' :=
  hb.grown h.grown hB hv

/-- Another slice of the call's own is as it was. -/
theorem Pushed.keep (h : Pushed w w' v g) (hu : w.ownsRow base e k u n xs) (ha : Apart v u) : w'.ownsRow base e k u n xs := by
  refine hu.kept h.grown ?_
  cases hq : u.ownBlock with
  | none => exact Or.inl rfl
  | some q => exact Or.inr (fun e => ha q e.symm hq)

theorem Pushed.apart (h : Pushed w w' v g) (hu : w.ownsRow base e k u n xs) (ha : Apart v u) : Apart (.slice (some ⟨g, 0, none⟩) m c) u := by
  intro q hq e2
  have hq' : g = q := by simpa [Value.ownBlock] using hq
  subst hq'
  rcases h.here with h1 | h1
  · exact ha _ h1 e2
  · have := (hu.lt _ e2).2; omega

/-- The blocks of the slice lie from B on. -/
theorem Pushed.from_ {B : Nat} (h : Pushed w w' v g) (hB : B ≤ w.heap.size) (hv : ∀ q, v.ownBlock = some q → B ≤ q) : ∀ q, (Value.slice (some ⟨g, 0, none⟩) m c).ownBlock = some q → B ≤ q := by
  intro q hq
  have hq' : g = q := by simpa [Value.ownBlock] using hq
  subst hq'
  rcases h.here with h1 | h1
  · exact hv _ h1
  · omega

/-- A block that is not the slice's own row is as it was. -/
theorem Pushed.block (h : Pushed w w' v g) {q : Nat} (hq : q < w.heap.size) (hv : v.ownBlock ≠ some q) : w'.heap[q]? = w.heap[q]? :=
  h.grown.block q hq (fun e => hv e.symm)

end

/-- From w to w', by an append to the slice v, which is now v'. -/
structure Grew (w w' : World) (v v' : Value) : Prop where
  grown : w.grownBy w' v.ownBlock
  here : ∀ q, v'.ownBlock = some q → v.ownBlock = some q ∨ w.heap.size ≤ q

section
variable {w w' : World} {u v v' : Value} {base e k n m : Nat} {xs : List Value}
theorem Grew.refl (w : World) (v : Value) : Grew w w v v := ⟨⟨rfl, rfl, rfl, Nat.le_refl _, fun _ _ _ => rfl⟩, fun _ h => Or.inl h⟩
theorem Grew.below {W : World} {B : Nat} (h : Grew w w' v v') (hb : Below B W w) (hB : B ≤ w.heap.size) (hv : ∀ q, v.ownBlock = some q → B ≤ q) : Below B W w' := hb.grown h.grown hB hv
theorem Grew.keep (h : Grew w w' v v') (hu : w.ownsRow base e k u n xs) (ha : Apart v u) : w'.ownsRow base e k u n xs := by
  refine hu.kept h.grown ?_
  cases hq : u.ownBlock with
  | none => exact Or.inl rfl
  | some q => exact Or.inr (fun e => ha q e.symm hq)
theorem Grew.apart (h : Grew w w' v v') (hu : w.ownsRow base e k u n xs) (ha : Apart v u) : Apart v' u := by
  intro q hq e2
  rcases h.here q hq with h1 | h1
  · exact ha _ h1 e2
  · have := (hu.lt _ e2).2; omega
theorem Grew.from_ {B : Nat} (h : Grew w w' v v') (hB : B ≤ w.heap.size) (hv : ∀ q, v.ownBlock = some q → B ≤ q) : ∀ q, v'.ownBlock = some q → B ≤ q := by
  intro q hq
  rcases h.here q hq with h1 | h1
  · exact hv _ h1
  · omega
theorem Pushed.grew {g c : Nat} (h : Pushed w w' v g) : Grew w w' v (.slice (some ⟨g, 0, none⟩) m c) :=
  ⟨h.grown, fun q hq => by have hq' : g = q := by simpa [Value.ownBlock] using hq
                           subst hq'; exact h.here⟩
theorem Pushed.of_drew {g : Nat} (h : Pushed w.drew w' v g) : Pushed w w' v g := ⟨⟨h.grown.os, h.grown.tape, h.grown.output, h.grown.size, h.grown.block⟩, h.here, h.lt⟩
end

/-- 'out = append(out, more...)': both are slices of the call's own. -/
theorem wpList_join {P : Program} (w : World) {ops : Array Oper} {rest : List Oper} {o : Oper} {a : Act} {Q : Exit → Act → World → Prop} (hgd : o.guard = none) (s x : Operand) (t : TypeId)
    (ho : o.op = .call { callee := .builtin .append, args := #[s, x], argTypes := #[t, t] })
    (e : TypeId) (i : TypeInfo) (z : Value) (size bytes : Nat) (ht : P.underlying t = some (.slice e)) (hi : P.info? e = some i) (hz : i.zero = some z)
    (hsize : i.size = size) (hby : i.bytes = bytes) (hzs : z.cells.size = size) (hsz : 0 < size)
    (v : Value) (n : Nat) (xs : List Value) (hs : a.eval s = v) (hown : w.ownsRow 0 e size v n xs)
    (u : Value) (m : Nat) (ys : List Value) (hx : a.eval x = u) (hu : w.ownsRow 0 e size u m ys) (h1 : ∀ u ∈ ys, u.oneCell' = true)
    (h63 : (n + m) * bytes ≤ 140737488355328) (hn : n + m ≤ maxLen)
    (h : ∀ v' w', w'.ownsRow 0 e size v' (n + m) (xs ++ ys) → Grew w w' v v' → wpList P ops Q rest (a.put o.dst v') w') :
    wpList P ops Q (o :: rest) a w := by
  rcases hu.2 with ⟨hu0, hm0⟩ | ⟨g, cap, cur, hug, _, hgg, _⟩
  · subst hu0; subst hm0
    have hys : ys = [] := by have := hu.1; exact List.length_eq_zero_iff.1 (by simpa using this)
    subst hys
    refine wpList_append_own_none hgd s x t ho 0 e i size ht hi v n xs hs hown hx ?_
    exact h v w (by simpa using hown) (Grew.refl _ _)
  · subst hug
    refine wpList_plain hgd fun K hK => ?_
    obtain ⟨v', w', hr, h2, h3, _, h5⟩ := run_append_own_at (P := P) w 0 t o.type e i z size bytes ht hi hz hsize hby hzs hsz v n xs hown ⟨g, 0, none⟩ m cap ys hu.1 (hu.cells (g := g) rfl) h1 hn h63 (Nat.zero_le _)
    unfold Oper.wp execOp
    simp only [ho, resolve, invoke, builtin, Sem.run_bind, Sem.run_pure, Result.andThen_ok, List.map_toArray, List.map_cons, List.map_nil, hs, hx, hr]
    refine hK _ _ (h v' w' h2 ⟨h3, fun q hq => ?_⟩)
    rcases h5 with h5 | h5
    · exact Or.inl (h5 ▸ hq)
    · right; rw [h5] at hq; simp at hq; omega

/-- 'out = append(out, x)': x has just been laid into a block of its own. -/
theorem wpList_push {P : Program} (w0 : World) {ops : Array Oper} {rest : List Oper} {o : Oper} {a : Act} {Q : Exit → Act → World → Prop} (hgd : o.guard = none) (s x : Operand) (t : TypeId)
    (ho : o.op = .call { callee := .builtin .append, args := #[s, x], argTypes := #[t, t] })
    (e : TypeId) (i : TypeInfo) (z : Value) (size bytes : Nat) (ht : P.underlying t = some (.slice e)) (hi : P.info? e = some i) (hz : i.zero = some z)
    (hsize : i.size = size) (hby : i.bytes = bytes) (hzs : z.cells.size = size) (hsz : 0 < size)
    (v : Value) (n : Nat) (xs : List Value) (hs : a.eval s = v) (hown : w0.ownsRow 0 e size v n xs)
    (news : Array Value) (e2 : TypeId) (b : Nat) (hb : w0.heap.size = b) (hx : a.eval x = .slice (some ⟨b, 0, none⟩) 1 1) (hl : news.size = size) (h1 : ∀ u ∈ news.toList, u.oneCell' = true)
    (h63 : (n + 1) * bytes ≤ 140737488355328) (hn : n + 1 ≤ maxLen)
    (h : ∀ g cap w', w'.ownsRow 0 e size (.slice (some ⟨g, 0, none⟩) (n + 1) cap) (n + 1) (xs ++ news.toList) → Pushed w0 w' v g → wpList P ops Q rest (a.put o.dst (.slice (some ⟨g, 0, none⟩) (n + 1) cap)) w') :
    wpList P ops Q (o :: rest) a (w0.alloc (.cells news e2)) := by
  subst hb
  refine wpList_append_lies _ hgd s x t ho 0 e i z size bytes ht hi hz hsize hby hzs hsz v n xs hs (hown.alloc _) ⟨w0.heap.size, 0, none⟩ 1 1 news.toList hx (by simpa using hl)
    (World.news_of_block (heap_alloc_new w0 _)) h1 (by omega) hn h63 (Nat.zero_le _) _ rfl ?_
  intro g cap w' hown' hg hat hlt
  refine h g cap w' hown' ⟨⟨hg.os, hg.tape, hg.output, ?_, ?_⟩, ?_, hlt⟩
  · have := hg.size; simp at this; omega
  · intro k hk hne
    rw [hg.block k (by simp; omega) hne]
    exact Below.heap_alloc _ _ _ hk
  · rcases hat with h1 | h1
    · exact Or.inl h1
    · right; simp at h1; omega

/-! A region that draws its order: first operations that only read, then the others in a forced order. -/
theorem still_of_quiet {P : Program} {ops : Array Oper} {w : World} {Q : Act → Prop} : ∀ (l : List Oper) (a : Act), wpQuiet P ops (fun w' => w' = w) Q l a → wpStill P ops w Q l a
  | [], _, h => h
  | o :: l, a, h => by
    unfold wpQuiet at h
    unfold wpStill
    by_cases hw : Region.wanted o (yielded ops a.tmps) = true
    · rw [if_pos hw] at h ⊢
      obtain ⟨v, h1, h2⟩ := h
      have h3 := h1 w rfl
      have ih := still_of_quiet l _ h2
      unfold Oper.quietAt at h3
      unfold Oper.still
      generalize (execOp a.eval o).run P w = r at *
      cases r with
      | ok n w' =>
        cases n <;> simp only [Oper.quietUpon] at h3 <;> simp only [Oper.stillUpon]
        case value u => obtain ⟨rfl, rfl⟩ := h3; exact ⟨rfl, ih⟩
        case skip => obtain ⟨rfl, rfl⟩ := h3; exact ⟨rfl, ih⟩
        case enter f args => obtain ⟨rfl, hc⟩ := h3; exact ⟨rfl, v, hc, ih⟩
      | halt x w' => simp only [Oper.quietUpon] at h3
    · rw [if_neg hw] at h ⊢
      exact still_of_quiet l _ h

theorem wp_region_tail {P : Program} {id : Nat} {Q : Exit → Act → World → Prop} {a : Act} {w : World} {l : List Oper} (n : Nat) (hm : P.follows .mixedOrders = true) (hB : Region.lexTailB .any l.toArray n = true)
    (h : wpQuiet P l.toArray (fun w' => w' = w.drew) (fun a' => wpList P l.toArray Q (l.drop n) a' w.drew) (l.take n) a) : (Code.region id l.toArray true).wp P Q a w :=
  wp_region_still_tail n hm hB (still_of_quiet _ _ h)

end Go.Proofs.Ytbjhcpchljjmhaa

/- A region that draws its order, walked in an order of one's choice: what only reads is taken as soon as it may come up; what calls, makes or writes comes up alone. No condition beyond those that each law names. -/
namespace Go.Proofs.Ytbjhcpchljjmhaa
open Go.RowKit

/-- Operations that only yield a value. -/
def plainOp (o : Oper) : Bool :=
  match o.op with
  | .move _ | .assign _ | .pick _ _ _ | .build _ _ | .load _ _ | .binOp _ _ _ _ _ | .unOp _ _ _ | .convert _ _ _ | .slice _ _ _ _ _ | .fieldAddr _ _ _ | .field _ _ _ | .indexAddr _ _ _ | .index _ _ _
  | .lookup _ _ _ _ | .extract _ _ | .makeInterface _ _ | .makeFunc _ _ _ => true
  | .call c => match c.callee with
    | .builtin .len | .builtin .cap => true
    | _ => false
  | _ => false

theorem run_value {α : Type} {P : Program} (s : Sem α) (f : α → Value) (w : World) {n : Next} {w' : World} (h : Sem.run P (do pure (Next.value (f (← s)))) w = .ok n w') : ∃ x, n = .value x := by
  rw [Sem.run_bind] at h
  cases hs : Sem.run P s w with
  | ok x w1 => rw [hs] at h; simp [Result.andThen] at h; exact ⟨_, h.1.symm⟩
  | halt x w1 => rw [hs] at h; simp [Result.andThen] at h

theorem plain_value {P : Program} {ρ : Operand → Value} {o : Oper} (hp : plainOp o = true) {w w' : World} {n : Next} (h : (execOp ρ o).run P w = .ok n w') : ∃ x, n = .value x := by
  unfold execOp at h
  unfold plainOp at hp
  split at h
  all_goals first
    | exact run_value _ (fun x => x) _ h
    | (simp_all; done)
    | (simp at h; exact ⟨_, h.1.symm⟩)
    | (rename_i c _ _ _; exact run_value (asBool (ρ c)) (fun b => if b = true then _ else _) _ h)
    | skip
  rename_i c hc
  rw [hc] at hp
  simp only at hp
  split at hp
  · rename_i hl
    simp [resolve, hl, invoke, builtin] at h
    exact run_value _ (fun x => x) _ (by simpa using h)
  · rename_i hl
    simp [resolve, hl, invoke, builtin] at h
    exact run_value _ (fun x => x) _ (by simpa using h)
  · cases hp

/-- The walk in the order given: (number, whether it only reads). -/
def wpFlat (P : Program) (ops : Array Oper) (S : World → Prop) (Q : Exit → Act → World → Prop) : List (Nat × Bool) → Act → World → Prop
  | [], a, w => Q .normal a w
  | (i, true) :: r, a, w => match ops[i]? with
    | none => False
    | some o => plainOp o = true ∧ wpQuiet P ops S (fun a' => wpFlat P ops S Q r a' w) [o] a
  | (i, false) :: r, a, w => wpOp P ops Q i (fun a' w' => S w' ∧ wpFlat P ops S Q r a' w') a w

/-- May the operations come up in that order? -/
def flatB (md : Region.Mode) (ops : Array Oper) : List (Nat × Bool) → Array Bool → Bool
  | [], listed => (Region.ready md ops listed).isEmpty
  | (i, true) :: r, listed => (Region.ready md ops listed).contains i && Region.free md ops listed i && flatB md ops r (listed.setIfInBounds i true)
  | (i, false) :: r, listed => decide (Region.ready md ops listed = [i]) && flatB md ops r (listed.setIfInBounds i true)

section
variable {P : Program} {ops : Array Oper} {S : World → Prop} {Q : Exit → Act → World → Prop}

theorem yieldsIf_of_quiet {o : Oper} {a : Act} {K : Act → Prop} (hp : plainOp o = true) (h : wpQuiet P ops S K [o] a) : ∃ v, YieldsIf P ops S o v a ∧ K (a.put o.dst v) := by
  unfold wpQuiet at h
  by_cases hw : Region.wanted o (yielded ops a.tmps) = true
  · rw [if_pos hw] at h
    obtain ⟨v, h1, h2⟩ := h
    refine ⟨v, Or.inl ⟨hw, fun w hw' => ?_⟩, h2⟩
    have h3 := h1 w hw'
    unfold Oper.quietAt at h3
    cases hr : (execOp a.eval o).run P w with
    | ok n w1 =>
      obtain ⟨x, rfl⟩ := plain_value hp hr
      rw [hr] at h3
      simp only [Oper.quietUpon] at h3
      rw [h3.1, h3.2]
    | halt x w1 =>
      rw [hr] at h3
      simp only [Oper.quietUpon] at h3
  · rw [if_neg hw] at h
    exact ⟨undef, Or.inr ⟨by simpa using hw, rfl⟩, h⟩

theorem held_of_flat {md : Region.Mode} (hsel : Region.noSelect ops = true) (hQ : ∀ c a d v w, Q (.panic c) (a.put d v) w → Q (.panic c) a w) :
    ∀ (order : List (Nat × Bool)) (listed : Array Bool) (a : Act) (w : World), S w → flatB md ops order listed = true → wpFlat P ops S Q order a w → wpAnyH P md ops Q S order.length listed a w
  | [], listed, a, w, _, hB, h => wpAnyH_done (by simpa [flatB] using hB) h 0
  | (i, true) :: r, listed, a, w, hS, hB, h => by
    unfold wpFlat at h
    split at h
    · cases h
    · rename_i o ho
      obtain ⟨hp, hq⟩ := h
      obtain ⟨v, hy, hK⟩ := yieldsIf_of_quiet hp hq
      simp only [flatB, Bool.and_eq_true] at hB
      exact wpAnyH_take ho hsel hB.1.2 hB.1.1 (fun c a w hq => hQ c a _ _ w hq) hy hS (held_of_flat hsel hQ r _ _ w hS hB.2 hK)
  | (i, false) :: r, listed, a, w, hS, hB, h => by
    simp only [flatB, Bool.and_eq_true, decide_eq_true_eq] at hB
    unfold wpFlat at h
    refine wpAnyH_all hB.1 (by simp) ?_
    intro j hj
    have hj' : j = i := by simpa using hj
    subst hj'
    exact wpOp_mono (fun a' w' ⟨hS', h'⟩ => ⟨hS', held_of_flat hsel hQ r _ a' w' hS' hB.2 h'⟩) h

theorem wp_region_flat {id : Nat} {a : Act} {w : World} {l : List Oper} (S : World → Prop) (order : List (Nat × Bool)) (hm : P.follows .mixedOrders = true)
    (hB : (Region.noSelect l.toArray && decide (order.length = l.toArray.size) && flatB .any l.toArray order (Array.replicate l.toArray.size false)) = true)
    (hQ : ∀ c a d v w, Q (.panic c) (a.put d v) w → Q (.panic c) a w) (hS : S w.drew) (h : wpFlat P l.toArray S Q order a w.drew) : (Code.region id l.toArray true).wp P Q a w := by
  simp only [Bool.and_eq_true, decide_eq_true_eq] at hB
  refine wp_region_held (S := S) hm ?_
  have := held_of_flat hB.1.1 hQ order _ a _ hS hB.2 h
  rw [hB.1.2] at this
  exact this

theorem flat_q {l : List Oper} {i : Nat} {r : List (Nat × Bool)} {o : Oper} {a : Act} {w : World} (ho : l[i]? = some o) (hp : plainOp o = true) (h : wpQuiet P l.toArray S (fun a' => wpFlat P l.toArray S Q r a' w) [o] a) :
    wpFlat P l.toArray S Q ((i, true) :: r) a w := by
  unfold wpFlat
  rw [List.getElem?_toArray, ho]
  exact ⟨hp, h⟩

theorem flat_a {l : List Oper} {i : Nat} {r : List (Nat × Bool)} {o : Oper} {a : Act} {w : World} (ho : l[i]? = some o)
    (h : ∀ K : Act → World → Prop, (∀ a w, S w ∧ wpFlat P l.toArray S Q r a w → K a w) → if Region.wanted o (yielded l.toArray a.tmps) = true then Oper.wp P o a w K Q else K (a.put o.dst undef) w) :
    wpFlat P l.toArray S Q ((i, false) :: r) a w := by
  unfold wpFlat
  exact wpOp_step (by rw [List.getElem?_toArray, ho]) h

theorem flat_end {a : Act} {w : World} (h : Q .normal a w) : wpFlat P ops S Q [] a w := h
end

/-- Worlds in which all that was there in W is as it was, but for one row. -/
structure But (W : World) (row : Option Nat) where
  w : World
  h : W.grownBy w row

instance (W : World) (row : Option Nat) : Nonempty (But W row) := ⟨⟨W, ⟨rfl, rfl, rfl, Nat.le_refl _, fun _ _ _ => rfl⟩⟩⟩

theorem But.cell {W : World} {row : Option Nat} (E : But W row) {b : Nat} (o : Nat) (hb : b < W.heap.size) (hr : row ≠ some b) : E.w.cell? ⟨b, o, none⟩ = W.cell? ⟨b, o, none⟩ :=
  World.cell?_of_block (w := W) (a := ⟨b, o, none⟩) (E.h.block b hb (fun e => hr e.symm))

theorem but_of {W w : World} {row : Option Nat} (h : W.grownBy w row) : ∃ E : But W row, w = E.w := ⟨⟨w, h⟩, rfl⟩

theorem grownBy_refl (W : World) (row : Option Nat) : W.grownBy W row := ⟨rfl, rfl, rfl, Nat.le_refl _, fun _ _ _ => rfl⟩
theorem grownBy_drew {W w : World} {row : Option Nat} (h : W.grownBy w row) : W.grownBy w.drew row := ⟨h.os, h.tape, h.output, h.size, h.block⟩
theorem grownBy_alloc' {W w : World} {row : Option Nat} (h : W.grownBy w row) (o : Obj) : W.grownBy (w.alloc o) row :=
  ⟨h.os, h.tape, h.output, by have := h.size; simp; omega, fun k hk hr => by rw [Below.heap_alloc _ _ _ (by have := h.size; omega)]; exact h.block k hk hr⟩
theorem grownBy_below {W w w' : World} {row : Option Nat} (h : W.grownBy w row) (hb : Below w.heap.size w w') : W.grownBy w' row :=
  ⟨hb.os.trans h.os, hb.tape.trans h.tape, hb.output.trans h.output, Nat.le_trans h.size hb.size, fun k hk hr => by rw [hb.block k (Nat.lt_of_lt_of_le hk h.size)]; exact h.block k hk hr⟩

/-- 'out = append(out, x)' as a step of a region. -/
theorem step_push {P : Program} (w0 : World) {ops : Array Oper} {o : Oper} {a : Act} {K : Act → World → Prop} {Q : Exit → Act → World → Prop} {E : Prop} (hgd : o.guard = none) (s x : Operand) (t : TypeId)
    (ho : o.op = .call { callee := .builtin .append, args := #[s, x], argTypes := #[t, t] })
    (e : TypeId) (i : TypeInfo) (z : Value) (size bytes : Nat) (ht : P.underlying t = some (.slice e)) (hi : P.info? e = some i) (hz : i.zero = some z)
    (hsize : i.size = size) (hby : i.bytes = bytes) (hzs : z.cells.size = size) (hsz : 0 < size)
    (v : Value) (n : Nat) (xs : List Value) (hs : a.eval s = v) (hown : w0.ownsRow 0 e size v n xs)
    (news : Array Value) (e2 : TypeId) (b : Nat) (hb : w0.heap.size = b) (hx : a.eval x = .slice (some ⟨b, 0, none⟩) 1 1) (hl : news.size = size) (h1 : ∀ u ∈ news.toList, u.oneCell' = true)
    (h63 : (n + 1) * bytes ≤ 140737488355328) (hn : n + 1 ≤ maxLen)
    (h : ∀ g cap w', w'.ownsRow 0 e size (.slice (some ⟨g, 0, none⟩) (n + 1) cap) (n + 1) (xs ++ news.toList) → Pushed w0 w' v g → K (a.put o.dst (.slice (some ⟨g, 0, none⟩) (n + 1) cap)) w') :
    if Region.wanted o (yielded ops a.tmps) = true then Oper.wp P o a (w0.alloc (.cells news e2)) K Q else E := by
  subst hb
  refine step_append_lies _ hgd s x t ho 0 e i z size bytes ht hi hz hsize hby hzs hsz v n xs hs (hown.alloc _) ⟨w0.heap.size, 0, none⟩ 1 1 news.toList hx (by simpa using hl)
    (World.news_of_block (heap_alloc_new w0 _)) h1 (by omega) hn h63 (Nat.zero_le _) _ rfl ?_
  intro g cap w' hown' hg hat hlt
  refine h g cap w' hown' ⟨⟨hg.os, hg.tape, hg.output, ?_, ?_⟩, ?_, hlt⟩
  · have := hg.size; simp at this; omega
  · intro k hk hne
    rw [hg.block k (by simp; omega) hne]
    exact Below.heap_alloc _ _ _ hk
  · rcases hat with h1 | h1
    · exact Or.inl h1
    · right; simp at h1; omega

end Go.Proofs.Ytbjhcpchljjmhaa

/- Sides of the rows of an order: who shares a gate with another one goes the other way. No condition. -/
namespace Go.Proofs.Ytbjhcpchljjmhaa

def mate (r : Nat) : Nat := if r % 2 = 0 then r + 1 else r - 1

theorem mate_mate (r : Nat) : mate (mate r) = r := by unfold mate; split <;> split <;> omega
theorem mate_ne (r : Nat) : mate r ≠ r := by unfold mate; split <;> omega
theorem mate_lt {r m : Nat} (hm : m % 2 = 0) : mate r < m ↔ r < m := by unfold mate; split <;> omega

/-- An order of n rows, and on which wire each row is in the end. -/
structure Ord2 (n : Nat) (σ τ : Nat → Nat) : Prop where
  s : ∀ i, i < n → σ i < n
  t : ∀ i, i < n → τ i < n
  st : ∀ i, i < n → σ (τ i) = i
  ts : ∀ i, i < n → τ (σ i) = i

/-- So many rows and wires have gates. -/
def mo (n : Nat) : Nat := n / 2 * 2
theorem mo_even (n : Nat) : mo n % 2 = 0 := by unfold mo; omega
theorem mo_le (n : Nat) : mo n ≤ n := by unfold mo; omega

/-- Rows that have a side have mates with the other side, but for some exceptions at the end. -/
structure Closed (n : Nat) (σ τ : Nat → Nat) (X : Nat → Prop) (s : Nat → Nat) : Prop where
  val : ∀ r, r < n → s r ≤ 2
  inn : ∀ r, r < n → s r ≠ 0 → r < mo n → s (mate r) = 3 - s r
  out : ∀ r, r < n → s r ≠ 0 → τ r < mo n → ¬ X r → s (σ (mate (τ r))) = 3 - s r

def none0 : Nat → Prop := fun _ => False

/-- At the head of a round: a start, or on the way behind the row o. r0 = n: no start is open. -/
def Way (n : Nat) (σ τ : Nat → Nat) (c r0 wire : Nat) (s : Nat → Nat) : Prop :=
  (Closed n σ τ none0 s ∧ wire < mo n ∧ σ wire = r0) ∨
  ∃ o, o < n ∧ τ o < mo n ∧ wire = mate (τ o) ∧ s o = 3 - c ∧ (r0 < n → s r0 = c) ∧ (s (σ wire) ≠ 0 → σ wire = r0) ∧ Closed n σ τ (fun r => r = r0 ∨ r = o) s

def put2 (s : Nat → Nat) (a x b y : Nat) : Nat → Nat := fun r => if r = b then y else if r = a then x else s r

section
variable {n : Nat} {σ τ : Nat → Nat} {c r0 wire : Nat} {s : Nat → Nat}

theorem Ord2.inj (h : Ord2 n σ τ) {i j : Nat} (hi : i < n) (hj : j < n) (e : σ i = σ j) : i = j := by
  rw [← h.ts i hi, ← h.ts j hj, e]
theorem Ord2.injt (h : Ord2 n σ τ) {i j : Nat} (hi : i < n) (hj : j < n) (e : τ i = τ j) : i = j := by
  rw [← h.st i hi, ← h.st j hj, e]

/-- The other row of a gate at the end. -/
theorem Ord2.pal (h : Ord2 n σ τ) {r : Nat} (hr : r < n) (ht : τ r < mo n) : σ (mate (τ r)) < n ∧ τ (σ (mate (τ r))) = mate (τ r) ∧ σ (mate (τ (σ (mate (τ r))))) = r := by
  have h1 : mate (τ r) < mo n := (mate_lt (mo_even n)).2 ht
  have h2 := mo_le n
  have h3 : mate (τ r) < n := by omega
  refine ⟨h.s _ h3, h.ts _ h3, ?_⟩
  rw [h.ts _ h3, mate_mate, h.st _ hr]

theorem way_wire (h : Ord2 n σ τ) (hw : Way n σ τ c r0 wire s) : wire < mo n ∧ wire < n := by
  have h2 := mo_le n
  rcases hw with ⟨_, h1, _⟩ | ⟨o, ho, h1, rfl, _⟩
  · omega
  · have := (mate_lt (r := τ o) (mo_even n)).2 h1
    omega

/-- A row that has a side already ends the way: all is closed. -/
theorem way_stop (h : Ord2 n σ τ) (hc : c = 1 ∨ c = 2) (hw : Way n σ τ c r0 wire s) (hset : s (σ wire) ≠ 0) : Closed n σ τ none0 s ∧ σ wire = r0 := by
  have hwn := (way_wire h hw).2
  rcases hw with ⟨h1, _, h3⟩ | ⟨o, ho, ht, rfl, hso, hr0, hrow, hcl⟩
  · exact ⟨h1, h3⟩
  · have e := hrow hset
    refine ⟨⟨hcl.val, hcl.inn, fun r hr hs htr _ => ?_⟩, e⟩
    have hrn : r0 < n := by rw [← e]; exact h.s _ hwn
    have hp := h.pal ho ht
    by_cases h1 : r = r0
    · subst h1
      rw [← e, hp.2.2, hso, e, hr0 hrn]
    · by_cases h2 : r = o
      · subst h2
        rw [e, hr0 hrn, hso]
        omega
      · exact hcl.out r hr hs htr (by rintro (h9 | h9); exact h1 h9; exact h2 h9)

/-- One round: the row has no side yet, nor has its mate; both get one. Either the way goes on, or the mate's wire is the last one, and all is closed. -/
theorem way_round (h : Ord2 n σ τ) (hc : c = 1 ∨ c = 2) (hw : Way n σ τ c r0 wire s) (hun : s (σ wire) = 0) (hrm : σ wire < mo n) :
    s (mate (σ wire)) = 0 ∧ mate (σ wire) < n ∧
    (τ (mate (σ wire)) < mo n → Way n σ τ c r0 (mate (τ (mate (σ wire)))) (put2 s (σ wire) c (mate (σ wire)) (3 - c))) ∧
    (¬ τ (mate (σ wire)) < mo n → r0 = n → Closed n σ τ none0 (put2 s (σ wire) c (mate (σ wire)) (3 - c))) := by
  have hwn := (way_wire h hw).2
  have hwm := (way_wire h hw).1
  obtain ⟨row, hrow⟩ : ∃ row, σ wire = row := ⟨_, rfl⟩
  have hτ : τ row = wire := by rw [← hrow]; exact h.ts _ hwn
  rw [hrow] at hun hrm ⊢
  have hle := mo_le n
  have hrn : row < n := by omega
  have hmm : mate row < mo n := (mate_lt (mo_even n)).2 hrm
  have hmn : mate row < n := by omega
  have hne := mate_ne row
  -- what is known of the state before, whichever case
  obtain ⟨X, hX, hcl⟩ : ∃ X : Nat → Prop, True ∧ Closed n σ τ X s := by
    rcases hw with ⟨h1, _⟩ | ⟨o, _, _, _, _, _, _, h1⟩
    · exact ⟨_, trivial, h1⟩
    · exact ⟨_, trivial, h1⟩
  have hmz : s (mate row) = 0 := by
    rcases Nat.eq_zero_or_pos (s (mate row)) with h0 | h0
    · exact h0
    · have h1 := hcl.inn (mate row) hmn (by omega) hmm
      have h2 := hcl.val (mate row) hmn
      rw [mate_mate, hun] at h1
      omega
  have hval : ∀ r, r < n → put2 s row c (mate row) (3 - c) r ≤ 2 := fun r hr => by
    unfold put2
    split
    · omega
    · split
      · omega
      · exact hcl.val r hr
  have hinn : ∀ r, r < n → put2 s row c (mate row) (3 - c) r ≠ 0 → r < mo n → put2 s row c (mate row) (3 - c) (mate r) = 3 - put2 s row c (mate row) (3 - c) r := fun r hr hs hrmo => by
    by_cases h1 : r = mate row
    · subst h1
      rw [mate_mate]
      unfold put2
      rw [if_neg (Ne.symm hne), if_pos rfl, if_pos rfl]
      omega
    · by_cases h2 : r = row
      · subst h2
        unfold put2
        rw [if_pos rfl, if_neg h1, if_pos rfl]
      · have h3 : mate r ≠ mate row := fun e => h2 (by rw [← mate_mate r, e, mate_mate])
        have h4 : mate r ≠ row := fun e => h1 (by rw [← e, mate_mate])
        unfold put2 at hs ⊢
        rw [if_neg h1, if_neg h2] at hs
        rw [if_neg h3, if_neg h4, if_neg h1, if_neg h2]
        exact hcl.inn r hr hs hrmo
  -- rows that are closed at the end before stay so
  have hkeep : ∀ r, r < n → s r ≠ 0 → τ r < mo n → s (σ (mate (τ r))) = 3 - s r → put2 s row c (mate row) (3 - c) (σ (mate (τ r))) = 3 - put2 s row c (mate row) (3 - c) r := fun r hr hs htr e => by
    have h2 := hcl.val r hr
    have h3 : σ (mate (τ r)) ≠ row := fun e9 => by rw [e9, hun] at e; omega
    have h4 : σ (mate (τ r)) ≠ mate row := fun e9 => by rw [e9, hmz] at e; omega
    have h5 : r ≠ row := fun e9 => hs (by rw [e9]; exact hun)
    have h6 : r ≠ mate row := fun e9 => hs (by rw [e9]; exact hmz)
    unfold put2
    rw [if_neg h4, if_neg h3, if_neg h6, if_neg h5]
    exact e
  have hset : ∀ r, put2 s row c (mate row) (3 - c) r ≠ 0 → r = row ∨ r = mate row ∨ s r ≠ 0 := fun r hs => by
    unfold put2 at hs
    by_cases h1 : r = mate row
    · exact Or.inr (Or.inl h1)
    · by_cases h2 : r = row
      · exact Or.inl h2
      · rw [if_neg h1, if_neg h2] at hs
        exact Or.inr (Or.inr hs)
  have hprow : put2 s row c (mate row) (3 - c) row = c := by unfold put2; rw [if_neg (Ne.symm hne), if_pos rfl]
  have hpm : put2 s row c (mate row) (3 - c) (mate row) = 3 - c := by unfold put2; rw [if_pos rfl]
  have hold : ∀ r, s r ≠ 0 → put2 s row c (mate row) (3 - c) r = s r := fun r hs => by
    have h5 : r ≠ row := fun e9 => hs (by rw [e9]; exact hun)
    have h6 : r ≠ mate row := fun e9 => hs (by rw [e9]; exact hmz)
    unfold put2
    rw [if_neg h6, if_neg h5]
  -- the row that the new mate shares its last gate with
  refine ⟨hmz, hmn, fun htm => ?_, fun htm hr0 => ?_⟩
  · refine Or.inr ⟨mate row, hmn, htm, rfl, hpm, ?_, ?_, ⟨hval, hinn, ?_⟩⟩
    · intro hr0n
      rcases hw with ⟨_, _, h3⟩ | ⟨o, ho, hto, hwo, hso, hr0, hro, _⟩
      · rw [hrow] at h3
        rw [← h3]
        exact hprow
      · have e := hr0 hr0n
        rw [hold _ (by omega)]
        exact e
    · intro hs
      have hp := h.pal hmn htm
      have hp9 : σ (mate (τ (σ (mate (τ (mate row)))))) = mate row := hp.2.2
      obtain ⟨r1, hr1⟩ : ∃ r1, σ (mate (τ (mate row))) = r1 := ⟨_, rfl⟩
      rw [hr1] at hs hp hp9 ⊢
      rcases hw with ⟨hcl0, _, h3⟩ | ⟨o, ho, hto, hwo, hso, hr0, hro, hcl2⟩
      · rw [hrow] at h3
        rcases hset r1 hs with h1 | h1 | h1
        · rw [h1, h3]
        · exfalso
          rw [h1] at hr1
          have h5 := h.ts (mate (τ (mate row))) (by have := (mate_lt (r := τ (mate row)) (mo_even n)).2 htm; omega)
          rw [hr1] at h5
          exact mate_ne _ h5.symm
        · exfalso
          have h5 := hcl0.out r1 hp.1 h1 (by rw [hp.2.1]; exact (mate_lt (mo_even n)).2 htm) (fun h => h)
          have h6 := hcl0.val r1 hp.1
          rw [hp9, hmz] at h5
          omega
      · have hpo := h.pal ho hto
        rw [← hwo, hrow] at hpo
        rcases hset r1 hs with h1 | h1 | h1
        · exfalso
          rw [h1] at hp9
          rw [hpo.2.2] at hp9
          rw [hp9] at hso
          omega
        · exfalso
          rw [h1] at hr1
          have h5 := h.ts (mate (τ (mate row))) (by have := (mate_lt (r := τ (mate row)) (mo_even n)).2 htm; omega)
          rw [hr1] at h5
          exact mate_ne _ h5.symm
        · by_cases h4 : r1 = r0
          · exact h4
          · exfalso
            by_cases h5 : r1 = o
            · rw [h5, ← hwo, hrow] at hp9
              exact hne hp9.symm
            · have h7 := hcl2.out r1 hp.1 h1 (by rw [hp.2.1]; exact (mate_lt (mo_even n)).2 htm) (by rintro (h9 | h9); exact h4 h9; exact h5 h9)
              have h6 := hcl2.val r1 hp.1
              rw [hp9, hmz] at h7
              omega
    · intro r hr hs htr hx
      have hx1 : r ≠ r0 := fun e => hx (Or.inl e)
      have hx2 : r ≠ mate row := fun e => hx (Or.inr e)
      rcases hw with ⟨hcl0, _, h3⟩ | ⟨o, ho, hto, hwo, hso, hr0, hro, hcl2⟩
      · rw [hrow] at h3
        rcases hset r hs with h1 | h1 | h1
        · exact absurd (h1.trans h3) hx1
        · exact absurd h1 hx2
        · exact hkeep r hr h1 htr (hcl0.out r hr h1 htr (fun h => h))
      · have hpo := h.pal ho hto
        rw [← hwo, hrow] at hpo
        rcases hset r hs with h1 | h1 | h1
        · rw [h1, hpo.2.2, hold o (by omega), hprow, hso]
        · exact absurd h1 hx2
        · by_cases h4 : r = o
          · rw [h4, ← hwo, hrow, hprow, hold o (by omega), hso]
            omega
          · exact hkeep r hr h1 htr (hcl2.out r hr h1 htr (by rintro (h9 | h9); exact hx1 h9; exact h4 h9))
  · refine ⟨hval, hinn, fun r hr hs htr _ => ?_⟩
    rcases hw with ⟨hcl0, _, h3⟩ | ⟨o, ho, hto, hwo, hso, hr0', hro, hcl2⟩
    · rw [hrow] at h3
      omega
    · have hpo := h.pal ho hto
      rw [← hwo, hrow] at hpo
      rcases hset r hs with h1 | h1 | h1
      · rw [h1, hpo.2.2, hold o (by omega), hprow, hso]
      · rw [h1] at htr
        exact absurd htr htm
      · by_cases h4 : r = o
        · rw [h4, ← hwo, hrow, hprow, hold o (by omega), hso]
          omega
        · exact hkeep r hr h1 htr (hcl2.out r hr h1 htr (by rintro (h9 | h9); omega; exact h4 h9))

end

end Go.Proofs.Ytbjhcpchljjmhaa

/- The sides of the rows, as the program gives them: (*loops).follow. No condition. -/
namespace Go.Proofs.Ytbjhcpchljjmhaa
open Go.RowKit

def iV (n : Nat) : Value := .int .i64 (n : Int)

/-- The program's record of an order and of the rows' sides. -/
structure LAt (W : World) (lb ob oo oc wb sb n : Nat) (σ τ s : Nat → Nat) : Prop where
  l0 : W.cell? ⟨lb, 0, none⟩ = some (.slice (some ⟨ob, oo, none⟩) n oc)
  l1 : W.cell? ⟨lb, 1, none⟩ = some (.slice (some ⟨wb, 0, none⟩) n n)
  l2 : W.cell? ⟨lb, 2, none⟩ = some (.slice (some ⟨sb, 0, none⟩) n n)
  l3 : W.cell? ⟨lb, 3, none⟩ = some (iV (mo n))
  o : ∀ i, i < n → W.cell? ⟨ob, oo + i, none⟩ = some (iV (σ i))
  t : ∀ i, i < n → W.cell? ⟨wb, i, none⟩ = some (iV (τ i))
  s : ∀ i, i < n → W.cell? ⟨sb, i, none⟩ = some (iV (s i))
  f : ∀ i, W.frozen? ⟨sb, i, none⟩ = false
  nl : lb ≠ sb
  no : ob ≠ sb
  nw : wb ≠ sb
  lt : lb < W.heap.size ∧ ob < W.heap.size ∧ wb < W.heap.size ∧ sb < W.heap.size

theorem xor_one (r : Nat) (h : r < 512) : bits .xor .i64 (r : Int) 1 = ((mate r : Nat) : Int) := by
  have H : (List.range 512).all (fun r => decide (bits .xor .i64 (r : Int) 1 = ((mate r : Nat) : Int))) = true := by decide +kernel
  have := List.all_eq_true.1 H r (by simp; omega)
  simpa using this

def upd (s : Nat → Nat) (a x : Nat) : Nat → Nat := fun r => if r = a then x else s r

theorem LAt.set {W : World} {lb ob oo oc wb sb n : Nat} {σ τ s : Nat → Nat} (h : LAt W lb ob oo oc wb sb n σ τ s) (a x : Nat) (ha : a < n) :
    LAt (W.setCell ⟨sb, a, none⟩ (.int .i64 (x : Int))) lb ob oo oc wb sb n σ τ (upd s a x) := by
  have far : ∀ (q : Addr), sb ≠ q.block → (W.setCell ⟨sb, a, none⟩ (.int .i64 (x : Int))).cell? q = W.cell? q := fun q hq => World.cell?_setCell_other _ _ _ _ (by intro e; exact hq (by rw [← e]))
  refine ⟨by rw [far _ (Ne.symm h.nl)]; exact h.l0, by rw [far _ (Ne.symm h.nl)]; exact h.l1, by rw [far _ (Ne.symm h.nl)]; exact h.l2, by rw [far _ (Ne.symm h.nl)]; exact h.l3,
    fun i hi => by rw [far _ (Ne.symm h.no)]; exact h.o i hi, fun i hi => by rw [far _ (Ne.symm h.nw)]; exact h.t i hi, fun i hi => ?_, fun i => ?_, h.nl, h.no, h.nw, ?_⟩
  · unfold upd
    by_cases e : i = a
    · subst e
      rw [if_pos rfl]
      exact World.cell?_setCell_same _ _ _ (h.s i hi)
    · rw [if_neg e, World.cell?_setCell_other _ _ _ _ (by intro e2; injection e2 with _ e3; exact e e3.symm)]
      exact h.s i hi
  · have := h.f i
    simpa using this
  · simpa [World.setCell] using h.lt

theorem LAt.drew {W : World} {lb ob oo oc wb sb n : Nat} {σ τ s : Nat → Nat} (h : LAt W lb ob oo oc wb sb n σ τ s) : LAt W.drew lb ob oo oc wb sb n σ τ s :=
  ⟨h.l0, h.l1, h.l2, h.l3, h.o, h.t, h.s, h.f, h.nl, h.no, h.nw, h.lt⟩

theorem put2_upd (s : Nat → Nat) (a x b y : Nat) : upd (upd s a x) b y = put2 s a x b y := by
  funext r
  unfold upd put2
  rfl

/-- How many rows have no side. -/
def openR (n : Nat) (s : Nat → Nat) : Nat := ((List.range n).filter fun r => decide (s r = 0)).length

theorem openR_put {n : Nat} {s s' : Nat → Nat} (h : ∀ r, s' r = 0 → s r = 0) {a : Nat} (ha : a < n) (h0 : s a = 0) (h1 : s' a ≠ 0) : openR n s' < openR n s := by
  unfold openR
  induction n with
  | zero => omega
  | succ n ih =>
    have mono : ∀ m, ((List.range m).filter fun r => decide (s' r = 0)).length ≤ ((List.range m).filter fun r => decide (s r = 0)).length := fun m => by
      induction m with
      | zero => simp
      | succ m ih =>
        simp only [List.range_succ, List.filter_append, List.length_append]
        have : ([m].filter fun r => decide (s' r = 0)).length ≤ ([m].filter fun r => decide (s r = 0)).length := by
          simp only [List.filter_cons, List.filter_nil]
          by_cases hm : s' m = 0
          · simp [hm, h m hm]
          · simp [hm]
        omega
    simp only [List.range_succ, List.filter_append, List.length_append]
    by_cases he : a = n
    · subst he
      have h2 := mono a
      have h3 : ([a].filter fun r => decide (s' r = 0)).length = 0 := by simp [h1]
      have h4 : ([a].filter fun r => decide (s r = 0)).length = 1 := by simp [h0]
      omega
    · have h2 := ih (by omega)
      have h5 : ([n].filter fun r => decide (s' r = 0)).length ≤ ([n].filter fun r => decide (s r = 0)).length := by
        simp only [List.filter_cons, List.filter_nil]
        by_cases hm : s' n = 0
        · simp [hm, h n hm]
        · simp [hm]
      omega

theorem way_start {n c r0 wire : Nat} {σ τ s : Nat → Nat} (hw : Way n σ τ c r0 wire s) (hr : r0 < n) : σ wire = r0 ∨ s r0 = c := by
  rcases hw with ⟨_, _, h⟩ | ⟨o, _, _, _, _, h, _⟩
  · exact Or.inl h
  · exact Or.inr (h hr)

def Ext (n : Nat) (s s' : Nat → Nat) : Prop := ∀ r, r < n → s r ≠ 0 → s' r = s r

/-- What is behind a call of follow. -/
def Follows (n : Nat) (σ τ : Nat → Nat) (c r0 lb ob oo oc wb sb : Nat) (s : Nat → Nat) (W : World) (e : Ending) (W' : World) : Prop :=
  e = .returned (.tuple #[]) ∧ ∃ s', LAt W' lb ob oo oc wb sb n σ τ s' ∧ W.grownBy W' (some sb) ∧ Ext n s s' ∧ Closed n σ τ none0 s' ∧ (r0 < n → s' r0 ≠ 0 ∧ (s r0 = 0 → s' r0 = c)) ∧ (r0 = n → s' (σ (n - 1)) = 3 - c)

set_option maxRecDepth 100000 in
set_option maxHeartbeats 2000000 in
theorem follow_any (n : Nat) (σ τ s : Nat → Nat) (c wire r0 lb ob oo oc wb sb : Nat) (hn : n ≤ 256) (hr0 : r0 ≤ n) (ho : Ord2 n σ τ) (hc : c = 1 ∨ c = 2) (hw : Way n σ τ c r0 wire s)
    (hodd : n % 2 = 1 → s (n - 1) ≠ 0 ∧ (r0 < n → s (σ (n - 1)) ≠ 0)) (W : World) (hl : LAt W lb ob oo oc wb sb n σ τ s) :
    Calls Try.prog 51 #[.pointer (some ⟨lb, 0, none⟩), iV wire, iV c] W (Follows n σ τ c r0 lb ob oo oc wb sb s W) := by
  have HL := Lib.hid hl
  have HO := Lib.hid ho
  have HW := Lib.hid hw
  have HOD := Lib.hid hodd
  have HCC := Lib.hid hc
  clear hl ho hw hodd hc
  unfold iV
  go_enter Try.func51, Try.ntmps51
  go_wp2_with fail
  go_loopg [1, 6, 7] (openR n s) (fun g v _ _ wr => ∃ (wi : Nat) (s1 : Nat → Nat), v = .int .i64 (wi : Int) ∧ Hid (openR n s1 = g) ∧ Hid (LAt wr lb ob oo oc wb sb n σ τ s1) ∧ Hid (Way n σ τ c r0 wi s1) ∧ Hid (Ext n s s1) ∧ Hid (W.grownBy wr (some sb)) ∧ Hid (r0 < n → s r0 = 0 → s1 r0 ≠ 0 → s1 r0 = c))
  case atStart => exact ⟨wire, s, rfl, rfl, HL.out, HW.out, fun r _ _ => rfl, ⟨rfl, rfl, rfl, Nat.le_refl _, fun _ _ _ => rfl⟩, fun _ h1 h2 => absurd h1 h2⟩
  case round =>
    obtain ⟨wi, s1, rfl, HG, HL1, HW1, HE, HGR, HST⟩ := hrel
    clear HL HW
    have hwi := way_wire HO.out HW1.out
    have hk0 := HL1.out.l0
    have hk1 := HL1.out.l1
    have hk2 := HL1.out.l2
    have hk3 := HL1.out.l3
    have ho1 := HL1.out.o wi hwi.2
    have hsn := HO.out.s wi hwi.2
    obtain ⟨row, hrow⟩ : ∃ row, σ wi = row := ⟨_, rfl⟩
    rw [hrow] at ho1 hsn
    have hs1 := HL1.out.s row hsn
    have hf1 := HL1.out.f row
    have HROW := Lib.hid hrow
    clear hrow
    unfold iV at hk3 ho1 hs1
    have hlt1 := hwi.1
    have hlt2 := hwi.2
    have hmo := mo_le n
    clear hwi
    have hd1 : decide ((wi : Int) < (mo n : Int)) = true := decide_eq_true (by omega)
    obtain ⟨x, hx⟩ : ∃ x, s1 row = x := ⟨_, rfl⟩
    rw [hx] at hs1
    have HX := Lib.hid hx
    clear hx
    by_cases hx0 : x = 0
    · subst hx0
      have hun : s1 (σ wi) = 0 := by rw [HROW.out]; exact HX.out
      have hrm : row < mo n := by
        rcases Nat.lt_or_ge row (mo n) with h | h
        · exact h
        · exfalso
          have hodd : n % 2 = 1 := by unfold mo at h; omega
          have h1 := (HOD.out hodd).1
          have h2 := HE.out (n - 1) (by omega) h1
          have h3 : row = n - 1 := by unfold mo at h; omega
          have h4 := HX.out
          rw [h3] at h4
          omega
      have hround := way_round HO.out HCC.out HW1.out hun (by rw [HROW.out]; exact hrm)
      rw [HROW.out] at hround
      obtain ⟨hm0, hmn, hgo, hend⟩ := hround
      have HM0 := Lib.hid hm0
      have HGO := Lib.hid hgo
      have HEND := Lib.hid hend
      have HUN := Lib.hid hun
      clear hun hm0 hgo hend
      have hcc := HCC.out
      have hmx : mate row < mo n := (mate_lt (mo_even n)).2 hrm
      have HL2 := Lib.hid (HL1.out.set row c hsn)
      have HL3 := Lib.hid (HL2.out.set (mate row) (3 - c) hmn)
      rw [put2_upd] at HL3
      have a0 := HL2.out.l0
      have a1 := HL2.out.l1
      have a2 := HL2.out.l2
      have a3 := HL2.out.l3
      have a4 := HL2.out.s (mate row) hmn
      have a5 := HL2.out.f (mate row)
      have b0 := HL3.out.l0
      have b1 := HL3.out.l1
      have b2 := HL3.out.l2
      have b3 := HL3.out.l3
      have b4 := HL3.out.t (mate row) hmn
      have htn := HO.out.t (mate row) hmn
      have hx1 := xor_one row (by omega)
      have hx2 := xor_one (τ (mate row)) (by omega)
      have hsub : (3 : Int) - (c : Int) = ((3 - c : Nat) : Int) := by omega
      have hd2 : decide (((mate row : Nat) : Int) ≥ (mo n : Int)) = false := decide_eq_false (by omega)
      have hd3 : ((0 : Int) != 0) = false := rfl
      have hc3 : 3 - c ≤ 2 := by omega
      have HEX : Hid (Ext n s (put2 s1 row c (mate row) (3 - c))) := fun r hr h0 => by
        have h1 := HE.out r hr h0
        have h2 : r ≠ row := fun e => by rw [e, HX.out] at h1; rw [e] at h0; omega
        have h3 : r ≠ mate row := fun e => by rw [e, HM0.out] at h1; rw [e] at h0; omega
        unfold put2
        rw [if_neg h3, if_neg h2]
        exact h1
      have HGX : Hid (W.grownBy ((wr.setCell ⟨sb, row, none⟩ (.int .i64 (c : Int))).setCell ⟨sb, mate row, none⟩ (.int .i64 ((3 - c : Nat) : Int))) (some sb)) := by
        have g := HGR.out
        refine ⟨g.os, g.tape, g.output, by have := g.size; simpa [World.setCell] using this, fun k hk hne => ?_⟩
        have hne' : k ≠ sb := fun e => hne (by rw [e])
        rw [Below.heap_setCell _ _ _ _ (by simpa using hne'), Below.heap_setCell _ _ _ _ (by simpa using hne')]
        exact g.block k hk hne
      have HOP : Hid (openR n (put2 s1 row c (mate row) (3 - c)) < gk) := by
        show _ < _
        rw [← HG.out]
        refine openR_put (a := row) (fun r hr => ?_) hsn HX.out ?_
        · unfold put2 at hr
          split at hr
          · omega
          · split at hr
            · omega
            · exact hr
        · unfold put2
          rw [if_neg (Ne.symm (mate_ne row)), if_pos rfl]
          omega
      have HSX : Hid (r0 < n → s r0 = 0 → put2 s1 row c (mate row) (3 - c) r0 ≠ 0 → put2 s1 row c (mate row) (3 - c) r0 = c) := fun hr h0 h1 => by
        have h2 : r0 ≠ mate row := fun e => by
          rcases way_start HW1.out hr with h | h
          · rw [HROW.out] at h
            exact mate_ne row (by rw [← e, ← h])
          · rw [e, HM0.out] at h
            omega
        unfold put2 at h1 ⊢
        rw [if_neg h2] at h1 ⊢
        split
        · rfl
        · rename_i h3
          rw [if_neg h3] at h1
          exact HST.out hr h0 h1
      unfold iV at a3 a4 b3 b4
      clear hcc
      by_cases htm : τ (mate row) < mo n
      · have htm2 : mate (τ (mate row)) < mo n := (mate_lt (mo_even n)).2 htm
        have hd4 : decide (((mate (τ (mate row)) : Nat) : Int) ≥ (mo n : Int)) = false := decide_eq_false (by omega)
        have HWN := Lib.hid (HGO.out htm)
        go_wp2_with fail
        go_roundg (openR n (put2 s1 row c (mate row) (3 - c)))
        case measure => exact HOP.out
        case rel => exact ⟨mate (τ (mate row)), _, rfl, rfl, HL3.out, HWN.out, HEX.out, HGX.out, HSX.out⟩
      · have hmt := mate_lt (r := τ (mate row)) (mo_even n)
        have hd4 : decide (((mate (τ (mate row)) : Nat) : Int) ≥ (mo n : Int)) = true := decide_eq_true (by omega)
        have hodd : n % 2 = 1 ∧ τ (mate row) = n - 1 := by unfold mo at htm; omega
        have hrow9 : σ (n - 1) = mate row := by rw [← hodd.2]; exact HO.out.st _ hmn
        have HF : Hid (Follows n σ τ c r0 lb ob oo oc wb sb s W (.returned (.tuple #[])) ((wr.setCell ⟨sb, row, none⟩ (.int .i64 (c : Int))).setCell ⟨sb, mate row, none⟩ (.int .i64 ((3 - c : Nat) : Int)))) := by
          refine ⟨rfl, _, HL3.out, HGX.out, HEX.out, ?_, fun hr => ?_, fun hr => ?_⟩
          · refine HEND.out htm ?_
            rcases Nat.lt_or_ge r0 n with h | h
            · exfalso
              have h1 := (HOD.out hodd.1).2 h
              have h2 := HE.out _ (by rw [hrow9]; exact hmn) h1
              rw [hrow9, HM0.out] at h2
              rw [hrow9] at h1
              omega
            · omega
          · exfalso
            have h1 := (HOD.out hodd.1).2 hr
            have h2 := HE.out _ (by rw [hrow9]; exact hmn) h1
            rw [hrow9, HM0.out] at h2
            rw [hrow9] at h1
            omega
          · rw [hrow9]
            unfold put2
            rw [if_pos rfl]
        have hle9 : mo n ≤ mate (τ (mate row)) := by omega
        have hle8 : ¬ mo n ≤ mate row := by omega
        clear hmt hodd hrow9
        go_wp2_with fail
        go_end0
        exact HF.out
    · have hd2 : ((x : Int) != 0) = true := by simp; omega
      have HF : Hid (Follows n σ τ c r0 lb ob oo oc wb sb s W (.returned (.tuple #[])) wr) := by
        have hst := way_stop HO.out HCC.out HW1.out (by rw [HROW.out, HX.out]; exact hx0)
        refine ⟨rfl, s1, HL1.out, HGR.out, HE.out, hst.1, fun hr => ?_, fun hr => ?_⟩
        · have : s1 r0 ≠ 0 := by rw [← hst.2, HROW.out, HX.out]; exact hx0
          exact ⟨this, fun h0 => HST.out hr h0 this⟩
        · have := hst.2
          rw [HROW.out] at this
          omega
      go_wp2_with fail
      go_end0
      exact HF.out

end Go.Proofs.Ytbjhcpchljjmhaa

/- The network of a mix: which gates stand on a list of wires, and how many. No condition. -/
namespace Go.Proofs.Ytbjhcpchljjmhaa

def pairs (k : Nat) (xs : List Int) : List (Int × Int) := (List.range k).map fun i => (xs.getD (2 * i) 0, xs.getD (2 * i + 1) 0)

def isUp (n i : Nat) : Bool := decide (i % 2 = 0) && decide (i < 2 * (n / 2))

/-- The wires of the upper and the lower inner network, of the first j wires of n. -/
def upTo (n : Nat) (xs : List Int) : Nat → List Int
  | 0 => []
  | j + 1 => upTo n xs j ++ if isUp n j then [xs.getD j 0] else []
def lowTo (n : Nat) (xs : List Int) : Nat → List Int
  | 0 => []
  | j + 1 => lowTo n xs j ++ if isUp n j then [] else [xs.getD j 0]

theorem upTo_length (n : Nat) (xs : List Int) : ∀ j, j ≤ n → (upTo n xs j).length = min ((j + 1) / 2) (n / 2)
  | 0, _ => by simp [upTo]
  | j + 1, h => by
    rw [upTo, List.length_append, upTo_length n xs j (by omega)]
    by_cases hu : isUp n j = true
    · rw [if_pos hu]
      simp [isUp] at hu
      simp only [List.length_singleton]; omega
    · rw [if_neg hu]
      simp [isUp] at hu
      simp only [List.length_nil]; omega

theorem both_length (n : Nat) (xs : List Int) : ∀ j, (upTo n xs j).length + (lowTo n xs j).length = j
  | 0 => rfl
  | j + 1 => by
    have := both_length n xs j
    rw [upTo, lowTo, List.length_append, List.length_append]
    split <;> simp only [List.length_singleton, List.length_nil] <;> omega

def upper (xs : List Int) : List Int := upTo xs.length xs xs.length
def lower (xs : List Int) : List Int := lowTo xs.length xs xs.length

theorem upper_length (xs : List Int) : (upper xs).length = xs.length / 2 := by
  rw [upper, upTo_length _ _ _ (Nat.le_refl _)]; omega
theorem lower_length (xs : List Int) : (lower xs).length = xs.length - xs.length / 2 := by
  have h1 := both_length xs.length xs xs.length
  have h2 := upper_length xs
  unfold upper at h2; unfold lower; omega

/-- How many gates stand in the last row. -/
def lastRow (n : Nat) : Nat := (n - 1 + n % 2) / 2

def gatesF : Nat → List Int → List (Int × Int)
  | 0, _ => []
  | f + 1, xs =>
    if xs.length < 2 then [] else if xs.length = 2 then [(xs.getD 0 0, xs.getD 1 0)]
    else pairs (xs.length / 2) xs ++ gatesF f (upper xs) ++ gatesF f (lower xs) ++ pairs (lastRow xs.length) xs

theorem gatesF_fuel : ∀ (f g : Nat) (xs : List Int), xs.length ≤ f → xs.length ≤ g → gatesF f xs = gatesF g xs
  | 0, 0, _, _, _ => rfl
  | 0, g + 1, xs, h, _ => by rw [gatesF, gatesF, if_pos (by omega)]
  | f + 1, 0, xs, _, h => by rw [gatesF, gatesF, if_pos (by omega)]
  | f + 1, g + 1, xs, h1, h2 => by
    rw [gatesF, gatesF]
    by_cases h : xs.length < 2
    · rw [if_pos h, if_pos h]
    · by_cases h' : xs.length = 2
      · rw [if_neg h, if_neg h, if_pos h', if_pos h']
      · have hu := upper_length xs
        have hl := lower_length xs
        rw [if_neg h, if_neg h, if_neg h', if_neg h', gatesF_fuel f g (upper xs) (by omega) (by omega), gatesF_fuel f g (lower xs) (by omega) (by omega)]

def gatesL (xs : List Int) : List (Int × Int) := gatesF xs.length xs

theorem gatesL_few (xs : List Int) (h : xs.length < 2) : gatesL xs = [] := by
  unfold gatesL
  cases hn : xs.length with
  | zero => rfl
  | succ n => rw [gatesF, if_pos h]

theorem gatesL_two (xs : List Int) (h : xs.length = 2) : gatesL xs = [(xs.getD 0 0, xs.getD 1 0)] := by
  unfold gatesL
  rw [h, gatesF, if_neg (by omega), if_pos h]

theorem gatesL_more (xs : List Int) (h : 2 < xs.length) : gatesL xs = pairs (xs.length / 2) xs ++ gatesL (upper xs) ++ gatesL (lower xs) ++ pairs (lastRow xs.length) xs := by
  unfold gatesL
  obtain ⟨n, hn⟩ : ∃ n, xs.length = n + 1 := ⟨xs.length - 1, by omega⟩
  have hu := upper_length xs
  have hl := lower_length xs
  rw [gatesF_fuel xs.length (n + 1) xs (Nat.le_refl _) (by omega), gatesF, if_neg (by omega), if_neg (by omega), gatesF_fuel n _ (upper xs) (by omega) (Nat.le_refl _),
    gatesF_fuel n _ (lower xs) (by omega) (Nat.le_refl _)]

/-! How many. -/
def cntF : Nat → Nat → Nat
  | 0, _ => 0
  | f + 1, n => if n < 2 then 0 else if n = 2 then 1 else n / 2 + cntF f (n / 2) + cntF f (n - n / 2) + lastRow n

theorem cntF_succ (f n : Nat) : cntF (f + 1) n = if n < 2 then 0 else if n = 2 then 1 else n / 2 + cntF f (n / 2) + cntF f (n - n / 2) + lastRow n := rfl

theorem gatesF_length : ∀ (f : Nat) (xs : List Int), (gatesF f xs).length = cntF f xs.length
  | 0, _ => rfl
  | f + 1, xs => by
    rw [gatesF, cntF]
    by_cases h : xs.length < 2
    · rw [if_pos h, if_pos h]; rfl
    · by_cases h' : xs.length = 2
      · rw [if_neg h, if_neg h, if_pos h', if_pos h']; rfl
      · rw [if_neg h, if_neg h, if_neg h', if_neg h']
        simp only [List.length_append, pairs, List.length_map, List.length_range, gatesF_length f, upper_length, lower_length]

/-- The least k with 2 to the k not below i. -/
def logUp (i : Nat) : Nat → Nat
  | 0 => 0
  | f + 1 => let k := logUp i f; if 2 ^ k < i then k + 1 else k

def wantTo : Nat → Nat
  | 0 => 0
  | n + 1 => wantTo n + (if n + 1 < 2 then 0 else logUp (n + 1) 9)

theorem cnt_few (n : Nat) (h : n ≤ 256) : cntF 10 n = wantTo n := by
  have H : (List.range 257).all (fun n => cntF 10 n == wantTo n) = true := by decide +kernel
  have := List.all_eq_true.1 H n (by simp; omega)
  simpa using this

theorem cntF_fuel : ∀ (f n : Nat), n ≤ 2 ^ f → ∀ g, f ≤ g → cntF (f + 1) n = cntF (g + 1) n
  | 0, n, h, g, _ => by rw [cntF_succ 0, cntF_succ g, if_pos (by omega), if_pos (by omega)]
  | f + 1, n, h, g, hg => by
    obtain ⟨g', rfl⟩ : ∃ g', g = g' + 1 := ⟨g - 1, by omega⟩
    rw [Nat.pow_succ] at h
    rw [cntF_succ (f + 1), cntF_succ (g' + 1), cntF_fuel f (n / 2) (by omega) g' (by omega), cntF_fuel f (n - n / 2) (by omega) g' (by omega)]

theorem gatesL_length (xs : List Int) (h : xs.length ≤ 256) : (gatesL xs).length = wantTo xs.length := by
  have e : gatesL xs = gatesF (max xs.length 10) xs := gatesF_fuel _ _ _ (Nat.le_refl _) (by omega)
  rw [e, gatesF_length, ← cnt_few _ h]
  obtain ⟨g, hg⟩ : ∃ g, max xs.length 10 = g + 1 := ⟨max xs.length 10 - 1, by omega⟩
  rw [hg, ← cntF_fuel 8 xs.length (by omega) g (by omega), ← cntF_fuel 8 xs.length (by omega) 9 (by omega)]

/-! The wires of a gate. -/
def Rising (n : Int) (xs : List Int) : Prop := (∀ i, i < xs.length → 0 ≤ xs.getD i 0 ∧ xs.getD i 0 < n) ∧ ∀ i j, j < xs.length → i < j → xs.getD i 0 < xs.getD j 0

theorem upTo_pos (n : Nat) (xs : List Int) : ∀ j, j ≤ n → ∀ i, i < (upTo n xs j).length → (upTo n xs j).getD i 0 = xs.getD (2 * i) 0
  | 0, _, i, h => by simp [upTo] at h
  | j + 1, hj, i, h => by
    have ih := upTo_pos n xs j (by omega)
    have hl := upTo_length n xs j (by omega)
    rw [upTo] at h ⊢
    by_cases hu : isUp n j = true
    · rw [if_pos hu] at h ⊢
      simp [isUp] at hu
      simp only [List.length_append, List.length_singleton] at h
      rcases Nat.lt_or_ge i (upTo n xs j).length with h1 | h1
      · rw [← ih i h1]; simp [List.getD, List.getElem?_append_left h1]
      · have : i = (upTo n xs j).length := by omega
        have e : 2 * i = j := by omega
        rw [e]; simp [List.getD, this]
    · rw [if_neg hu] at h ⊢
      simp only [List.append_nil] at h ⊢
      exact ih i h

theorem lowTo_pos (n : Nat) (xs : List Int) : ∀ j, j ≤ n → ∀ i, i < (lowTo n xs j).length → (lowTo n xs j).getD i 0 = xs.getD (if i < n / 2 then 2 * i + 1 else 2 * (n / 2) + (i - n / 2)) 0
  | 0, _, i, h => by simp [lowTo] at h
  | j + 1, hj, i, h => by
    have ih := lowTo_pos n xs j (by omega)
    have hl := upTo_length n xs j (by omega)
    have hb := both_length n xs j
    rw [lowTo] at h ⊢
    by_cases hu : isUp n j = true
    · rw [if_pos hu] at h ⊢
      simp only [List.append_nil] at h ⊢
      exact ih i h
    · rw [if_neg hu] at h ⊢
      simp [isUp] at hu
      simp only [List.length_append, List.length_singleton] at h
      rcases Nat.lt_or_ge i (lowTo n xs j).length with h1 | h1
      · rw [← ih i h1]; simp [List.getD, List.getElem?_append_left h1]
      · have hi : i = (lowTo n xs j).length := by omega
        have e : (if i < n / 2 then 2 * i + 1 else 2 * (n / 2) + (i - n / 2)) = j := by
          split <;> omega
        rw [e]; simp [List.getD, hi]

theorem rising_upper {n : Int} {xs : List Int} (h : Rising n xs) : Rising n (upper xs) := by
  have hl := upper_length xs
  refine ⟨fun i hi => ?_, fun i j hj hij => ?_⟩
  · rw [upper, upTo_pos _ _ _ (Nat.le_refl _) _ (by exact hi)]; exact h.1 _ (by omega)
  · rw [upper, upTo_pos _ _ _ (Nat.le_refl _) _ (by unfold upper at hj; omega), upTo_pos _ _ _ (Nat.le_refl _) _ (by exact hj)]; exact h.2 _ _ (by omega) (by omega)

theorem rising_lower {n : Int} {xs : List Int} (h : Rising n xs) : Rising n (lower xs) := by
  have hl := lower_length xs
  refine ⟨fun i hi => ?_, fun i j hj hij => ?_⟩
  · rw [lower, lowTo_pos _ _ _ (Nat.le_refl _) _ (by exact hi)]; exact h.1 _ (by split <;> omega)
  · rw [lower, lowTo_pos _ _ _ (Nat.le_refl _) _ (by unfold lower at hj; omega), lowTo_pos _ _ _ (Nat.le_refl _) _ (by exact hj)]
    refine h.2 _ _ (by split <;> omega) (by split <;> split <;> omega)

/-- A gate is on two wires, the first below the second, both of the network. -/
def GoodGates (n : Int) (l : List (Int × Int)) : Prop := ∀ g ∈ l, 0 ≤ g.1 ∧ g.1 < g.2 ∧ g.2 < n

theorem pairs_good {n : Int} {xs : List Int} (h : Rising n xs) (k : Nat) (hk : 2 * k ≤ xs.length) : GoodGates n (pairs k xs) := by
  intro g hg
  simp only [pairs, List.mem_map, List.mem_range] at hg
  obtain ⟨i, hi, rfl⟩ := hg
  exact ⟨(h.1 _ (by omega)).1, h.2 _ _ (by omega) (by omega), (h.1 _ (by omega)).2⟩

theorem gatesF_good {n : Int} : ∀ (f : Nat) (xs : List Int), Rising n xs → GoodGates n (gatesF f xs)
  | 0, _, _ => by intro g hg; simp [gatesF] at hg
  | f + 1, xs, h => by
    rw [gatesF]
    by_cases h1 : xs.length < 2
    · rw [if_pos h1]; intro g hg; simp at hg
    · by_cases h2 : xs.length = 2
      · rw [if_neg h1, if_pos h2]
        intro g hg
        simp only [List.mem_singleton] at hg
        subst hg
        exact ⟨(h.1 _ (by omega)).1, h.2 _ _ (by omega) (by omega), (h.1 _ (by omega)).2⟩
      · rw [if_neg h1, if_neg h2]
        intro g hg
        simp only [List.mem_append] at hg
        rcases hg with ((hg | hg) | hg) | hg
        · exact pairs_good h _ (by omega) g hg
        · exact gatesF_good f _ (rising_upper h) g hg
        · exact gatesF_good f _ (rising_lower h) g hg
        · exact pairs_good h _ (by unfold lastRow; omega) g hg

def iota (n : Nat) : List Int := (List.range n).map fun (i : Nat) => (i : Int)
theorem iota_length (n : Nat) : (iota n).length = n := by simp [iota]
theorem iota_getD (n i : Nat) (h : i < n) : (iota n).getD i 0 = i := by simp [iota, List.getD, h]
theorem iota_succ (n : Nat) : iota (n + 1) = iota n ++ [(n : Int)] := by simp [iota, List.range_succ]

theorem rising_iota (n : Nat) : Rising n (iota n) := by
  refine ⟨fun i hi => ?_, fun i j hj hij => ?_⟩
  · rw [iota_length] at hi; rw [iota_getD _ _ hi]; omega
  · rw [iota_length] at hj; rw [iota_getD _ _ hj, iota_getD _ _ (by omega)]; omega

theorem plan_good (n : Nat) : GoodGates n (gatesL (iota n)) := gatesF_good _ _ (rising_iota n)

end Go.Proofs.Ytbjhcpchljjmhaa

/- What a network does to rows. No condition. -/
namespace Go.Proofs.Ytbjhcpchljjmhaa

def swapI (l : List Int) (x y : Nat) : List Int := (l.set x (l.getD y 0)).set y (l.getD x 0)
theorem swapI_length (l : List Int) (x y : Nat) : (swapI l x y).length = l.length := by simp [swapI]

/-- After the first j gates. -/
def runTo (gs : List (Int × Int)) (bs : List Bool) (l : List Int) : Nat → List Int
  | 0 => l
  | j + 1 => if bs.getD j false then swapI (runTo gs bs l j) (gs.getD j (0, 0)).1.toNat (gs.getD j (0, 0)).2.toNat else runTo gs bs l j

theorem runTo_length (gs : List (Int × Int)) (bs : List Bool) (l : List Int) : ∀ j, (runTo gs bs l j).length = l.length
  | 0 => rfl
  | j + 1 => by
    rw [runTo]
    split
    · rw [swapI_length, runTo_length gs bs l j]
    · exact runTo_length gs bs l j

end Go.Proofs.Ytbjhcpchljjmhaa

/- Every order can be made by the gates of a network, given sides of its rows. No condition. -/
namespace Go.Proofs.Ytbjhcpchljjmhaa

def swpF (b : Bool) (x y : Nat) (f : Nat → Int) : Nat → Int := fun k => if b then (if k = y then f x else if k = x then f y else f k) else f k

def runZ : List ((Int × Int) × Bool) → (Nat → Int) → (Nat → Int)
  | [], f => f
  | (g, b) :: t, f => runZ t (swpF b g.1.toNat g.2.toNat f)

theorem runZ_append (a b : List ((Int × Int) × Bool)) (f : Nat → Int) : runZ (a ++ b) f = runZ b (runZ a f) := by
  induction a generalizing f with
  | nil => rfl
  | cons x a ih => obtain ⟨g, c⟩ := x; simp only [List.cons_append, runZ]; exact ih _

/-- The run of a network, wire by wire. -/
theorem runTo_runZ (gs : List (Int × Int)) (bs : List Bool) (l : List Int) (hl : bs.length = gs.length) (hg : ∀ g ∈ gs, g.1.toNat < l.length ∧ g.2.toNat < l.length) :
    ∀ j, j ≤ gs.length → ∀ k, (runTo gs bs l j).getD k 0 = runZ ((gs.zip bs).take j) (fun k => l.getD k 0) k
  | 0, _, k => by simp [runTo, runZ]
  | j + 1, hj, k => by
    have ih := runTo_runZ gs bs l hl hg j (by omega)
    have hz : j < (gs.zip bs).length := by simp; omega
    rw [List.take_succ_eq_append_getElem hz, runZ_append, runTo]
    have hg1 : gs.getD j (0, 0) = gs[j] := by simp [List.getD, show j < gs.length by omega]
    have hb1 : bs.getD j false = bs[j] := by simp [List.getD, show j < bs.length by omega]
    have hgj := hg gs[j] (List.getElem_mem _)
    have hlen := runTo_length gs bs l j
    rw [hg1, hb1, List.getElem_zip]
    simp only [runZ, swpF]
    cases bs[j] with
    | false => simp only [Bool.false_eq_true, if_false]; exact ih k
    | true =>
      simp only [if_true]
      unfold swapI
      rw [← ih, ← ih, ← ih]
      simp only [List.getD_eq_getElem?_getD, List.getElem?_set, List.length_set, hlen, hgj, if_true]
      by_cases h1 : gs[j].2.toNat = k
      · simp [h1]
      · by_cases h2 : gs[j].1.toNat = k
        · simp [h1, h2, Ne.symm h1]
        · simp [h1, h2, Ne.symm h1, Ne.symm h2]

/-- The wire that stands at a place of a list. -/
def wat (xs : List Int) (i : Nat) : Nat := (xs.getD i 0).toNat
/-- Wires that are unlike. -/
def Unlike (xs : List Int) : Prop := ∀ i j, i < xs.length → j < xs.length → wat xs i = wat xs j → i = j

def bitsOf (k : Nat) (b : Nat → Bool) : List Bool := (List.range k).map b

theorem pairs_run (xs : List Int) (hu : Unlike xs) (b : Nat → Bool) : ∀ (k : Nat), 2 * k ≤ xs.length → ∀ f : Nat → Int,
    (∀ i, i < xs.length → runZ ((pairs k xs).zip (bitsOf k b)) f (wat xs i) = if i < 2 * k ∧ b (i / 2) = true then f (wat xs (mate i)) else f (wat xs i)) ∧
    (∀ m, (∀ i, i < xs.length → wat xs i ≠ m) → runZ ((pairs k xs).zip (bitsOf k b)) f m = f m)
  | 0, _, f => by
    refine ⟨fun i _ => ?_, fun m _ => rfl⟩
    rw [if_neg (by omega)]
    rfl
  | k + 1, hk, f => by
    have ih := pairs_run xs hu b k (by omega) f
    have e : (pairs (k + 1) xs).zip (bitsOf (k + 1) b) = (pairs k xs).zip (bitsOf k b) ++ [((xs.getD (2 * k) 0, xs.getD (2 * k + 1) 0), b k)] := by
      unfold pairs bitsOf
      rw [List.range_succ, List.map_append, List.map_append, List.zip_append (by simp)]
      rfl
    rw [e]
    simp only [runZ_append, runZ, swpF]
    obtain ⟨g, hg⟩ : ∃ g, runZ ((pairs k xs).zip (bitsOf k b)) f = g := ⟨_, rfl⟩
    rw [hg] at ih ⊢
    have hx : (xs.getD (2 * k) 0).toNat = wat xs (2 * k) := rfl
    have hy : (xs.getD (2 * k + 1) 0).toNat = wat xs (2 * k + 1) := rfl
    rw [hx, hy]
    have m1 : mate (2 * k) = 2 * k + 1 := by unfold mate; rw [if_pos (by omega)]
    have m2 : mate (2 * k + 1) = 2 * k := by unfold mate; rw [if_neg (by omega)]; omega
    have g1 : g (wat xs (2 * k)) = f (wat xs (2 * k)) := by rw [ih.1 _ (by omega), if_neg (by omega)]
    have g2 : g (wat xs (2 * k + 1)) = f (wat xs (2 * k + 1)) := by rw [ih.1 _ (by omega), if_neg (by omega)]
    refine ⟨fun i hi => ?_, fun m hm => ?_⟩
    · by_cases hi1 : i = 2 * k + 1
      · subst hi1
        rw [show (2 * k + 1) / 2 = k by omega]
        cases b k with
        | false => simp only [Bool.false_eq_true, if_false, and_false]; exact g2
        | true => simp only [if_true, and_true]; rw [if_pos (by omega), m2, g1]
      · have n1 : wat xs i ≠ wat xs (2 * k + 1) := fun h => hi1 (hu i (2 * k + 1) hi (by omega) h)
        rw [if_neg n1]
        by_cases hi2 : i = 2 * k
        · subst hi2
          rw [show 2 * k / 2 = k by omega]
          cases b k with
          | false => simp only [Bool.false_eq_true, if_false, and_false]; exact g1
          | true => simp only [if_true, and_true]; rw [if_pos (by omega), m1, g2]
        · have n2 : wat xs i ≠ wat xs (2 * k) := fun h => hi2 (hu i (2 * k) hi (by omega) h)
          rw [if_neg n2, ih.1 i hi]
          have : (i < 2 * k ∧ b (i / 2) = true) ↔ (i < 2 * (k + 1) ∧ b (i / 2) = true) := by constructor <;> intro h <;> exact ⟨by omega, h.2⟩
          simp only [this, ite_self]
    · have n1 : m ≠ wat xs (2 * k + 1) := fun h => hm (2 * k + 1) (by omega) h.symm
      have n2 : m ≠ wat xs (2 * k) := fun h => hm (2 * k) (by omega) h.symm
      simp only [if_neg n1, if_neg n2, ite_self]
      exact ih.2 m hm

/-- Gates that make an order, on whatever wires. -/
def Makes (n : Nat) (σ : Nat → Nat) (bs : List Bool) : Prop :=
  ∀ xs : List Int, xs.length = n → bs.length = (gatesL xs).length ∧ (Unlike xs → ∀ f : Nat → Int,
    (∀ i, i < n → runZ ((gatesL xs).zip bs) f (wat xs i) = f (wat xs (σ i))) ∧
    (∀ m, (∀ i, i < n → wat xs i ≠ m) → runZ ((gatesL xs).zip bs) f m = f m))

theorem makes_one (σ : Nat → Nat) (h : σ 0 = 0) : Makes 1 σ [] := by
  intro xs hx
  rw [gatesL_few xs (by omega)]
  refine ⟨rfl, fun _ f => ⟨fun i hi => ?_, fun m _ => rfl⟩⟩
  obtain rfl : i = 0 := by omega
  rw [h]
  rfl

theorem makes_two (σ : Nat → Nat) (h0 : σ 0 < 2) (h1 : σ 1 < 2) (hne : σ 0 ≠ σ 1) : Makes 2 σ [decide (σ 0 = 1)] := by
  intro xs hx
  rw [gatesL_two xs hx]
  refine ⟨rfl, fun hu f => ?_⟩
  have n01 : wat xs 0 ≠ wat xs 1 := fun h => by have := hu 0 1 (by omega) (by omega) h; omega
  have e0 : (xs.getD 0 0).toNat = wat xs 0 := rfl
  have e1 : (xs.getD 1 0).toNat = wat xs 1 := rfl
  simp only [List.zip_cons_cons, List.zip_nil_right, runZ, swpF, e0, e1]
  by_cases h : σ 0 = 1
  · have h' : σ 1 = 0 := by omega
    have hd : decide (σ 0 = 1) = true := decide_eq_true h
    simp only [hd, if_true]
    refine ⟨fun i hi => ?_, fun m hm => ?_⟩
    · obtain rfl | rfl : i = 0 ∨ i = 1 := by omega
      · rw [if_neg n01, if_pos rfl, h]
      · rw [if_pos rfl, h']
    · rw [if_neg (fun h => hm 1 (by omega) h.symm), if_neg (fun h => hm 0 (by omega) h.symm)]
  · have h0' : σ 0 = 0 := by omega
    have h' : σ 1 = 1 := by omega
    simp only [h, decide_false, Bool.false_eq_true, if_false]
    refine ⟨fun i hi => ?_, fun m _ => by first | rfl | trivial⟩
    obtain rfl | rfl : i = 0 ∨ i = 1 := by omega
    · rw [h0']
    · rw [h']

/-- All rows have a side: mates are apart, and the last wire is fed from below. -/
structure Sided (n : Nat) (σ : Nat → Nat) (s : Nat → Nat) : Prop where
  val : ∀ r, r < n → s r = 1 ∨ s r = 2
  inn : ∀ r, r < mo n → s (mate r) = 3 - s r
  out : ∀ i, i < mo n → s (σ (mate i)) = 3 - s (σ i)
  last : s (σ (n - 1)) = 2
  odd : n % 2 = 1 → s (n - 1) = 2

/-- The order of the upper and of the lower inner network. -/
def upO (σ s : Nat → Nat) (i : Nat) : Nat := (if s (σ (2 * i)) = 2 then σ (2 * i + 1) else σ (2 * i)) / 2
def loO (n : Nat) (σ s : Nat → Nat) (i : Nat) : Nat := if i < n / 2 then (if s (σ (2 * i)) = 2 then σ (2 * i) else σ (2 * i + 1)) / 2 else σ (n - 1) / 2

def firstB (s : Nat → Nat) (i : Nat) : Bool := decide (s (2 * i) = 2)
def lastB (σ s : Nat → Nat) (i : Nat) : Bool := decide (s (σ (2 * i)) = 2)

theorem wat_upper (xs : List Int) (i : Nat) (h : i < xs.length / 2) : wat (upper xs) i = wat xs (2 * i) := by
  unfold wat upper
  rw [upTo_pos _ _ _ (Nat.le_refl _) _ (by have := upper_length xs; unfold upper at this; omega)]
theorem wat_lower (xs : List Int) (i : Nat) (h : i < xs.length - xs.length / 2) : wat (lower xs) i = wat xs (if i < xs.length / 2 then 2 * i + 1 else xs.length - 1) := by
  unfold wat lower
  rw [lowTo_pos _ _ _ (Nat.le_refl _) _ (by have := lower_length xs; unfold lower at this; omega)]
  by_cases hc : i < xs.length / 2
  · rw [if_pos hc, if_pos hc]
  · rw [if_neg hc, if_neg hc, show 2 * (xs.length / 2) + (i - xs.length / 2) = xs.length - 1 by omega]

section
variable {n : Nat} {σ τ s : Nat → Nat}

theorem mate_even (i : Nat) : mate (2 * i) = 2 * i + 1 := by unfold mate; rw [if_pos (by omega)]
theorem mate_odd (i : Nat) : mate (2 * i + 1) = 2 * i := by unfold mate; rw [if_neg (by omega)]; omega

theorem Sided.two (h : Sided n σ s) {i : Nat} (hi : i < n / 2) : (s (2 * i) = 1 ∧ s (2 * i + 1) = 2) ∨ (s (2 * i) = 2 ∧ s (2 * i + 1) = 1) := by
  have h1 := h.inn (2 * i) (by unfold mo; omega)
  have h2 := h.val (2 * i) (by omega)
  rw [mate_even] at h1
  omega

theorem Sided.twoO (h : Sided n σ s) (ho : Ord2 n σ τ) {i : Nat} (hi : i < n / 2) : (s (σ (2 * i)) = 1 ∧ s (σ (2 * i + 1)) = 2) ∨ (s (σ (2 * i)) = 2 ∧ s (σ (2 * i + 1)) = 1) := by
  have h1 := h.out (2 * i) (by unfold mo; omega)
  have h2 := h.val (σ (2 * i)) (ho.s _ (by omega))
  rw [mate_even] at h1
  omega

/-- Behind the first gates: a row of the upper side is on the upper wire of its gate. -/
theorem first_up (h : Sided n σ s) (xs : List Int) (hx : xs.length = n) (hu : Unlike xs) (f : Nat → Int) {a : Nat} (ha : a < n) (hv : s a = 1) :
    a / 2 < n / 2 ∧ runZ ((pairs (n / 2) xs).zip (bitsOf (n / 2) (firstB s))) f (wat (upper xs) (a / 2)) = f (wat xs a) := by
  have hlt : a / 2 < n / 2 := by
    rcases Nat.lt_or_ge (a / 2) (n / 2) with h1 | h1
    · exact h1
    · have := h.odd (by omega)
      rw [show n - 1 = a by omega, hv] at this
      omega
  refine ⟨hlt, ?_⟩
  have hr := (pairs_run xs hu (firstB s) (n / 2) (by omega) f).1 (2 * (a / 2)) (by omega)
  rw [wat_upper xs _ (by omega), hr, mate_even, show 2 * (a / 2) / 2 = a / 2 by omega]
  unfold firstB
  rcases h.two hlt with ⟨h1, h2⟩ | ⟨h1, h2⟩
  · have e : a = 2 * (a / 2) := by
      rcases Nat.mod_two_eq_zero_or_one a with hp | hp
      · omega
      · rw [show 2 * (a / 2) + 1 = a by omega, hv] at h2
        omega
    rw [if_neg (by simp [h1]), ← e]
  · have e : a = 2 * (a / 2) + 1 := by
      rcases Nat.mod_two_eq_zero_or_one a with hp | hp
      · rw [show 2 * (a / 2) = a by omega, hv] at h1
        omega
      · omega
    rw [if_pos (by simp [h1]; omega), ← e]

/-- A row of the lower side is on the lower one, the last of an odd number on the last wire. -/
theorem first_low (h : Sided n σ s) (xs : List Int) (hx : xs.length = n) (hu : Unlike xs) (f : Nat → Int) {a : Nat} (ha : a < n) (hv : s a = 2) :
    a / 2 < n - n / 2 ∧ runZ ((pairs (n / 2) xs).zip (bitsOf (n / 2) (firstB s))) f (wat (lower xs) (a / 2)) = f (wat xs a) := by
  refine ⟨by omega, ?_⟩
  rw [wat_lower xs _ (by omega), hx]
  by_cases hlt : a / 2 < n / 2
  · rw [if_pos hlt]
    have hr := (pairs_run xs hu (firstB s) (n / 2) (by omega) f).1 (2 * (a / 2) + 1) (by omega)
    rw [hr, mate_odd, show (2 * (a / 2) + 1) / 2 = a / 2 by omega]
    unfold firstB
    rcases h.two hlt with ⟨h1, h2⟩ | ⟨h1, h2⟩
    · have e : a = 2 * (a / 2) + 1 := by
        rcases Nat.mod_two_eq_zero_or_one a with hp | hp
        · rw [show 2 * (a / 2) = a by omega, hv] at h1
          omega
        · omega
      rw [if_neg (by simp [h1]), ← e]
    · have e : a = 2 * (a / 2) := by
        rcases Nat.mod_two_eq_zero_or_one a with hp | hp
        · omega
        · rw [show 2 * (a / 2) + 1 = a by omega, hv] at h2
          omega
      rw [if_pos (by simp [h1]; omega), ← e]
  · rw [if_neg hlt, show n - 1 = a by omega]
    have hr := (pairs_run xs hu (firstB s) (n / 2) (by omega) f).1 a (by omega)
    rw [hr, if_neg (by omega)]

theorem unlike_upper (xs : List Int) (hu : Unlike xs) : Unlike (upper xs) := by
  intro i j hi hj e
  rw [upper_length] at hi hj
  rw [wat_upper xs _ hi, wat_upper xs _ hj] at e
  have := hu _ _ (by omega) (by omega) e
  omega

theorem unlike_lower (xs : List Int) (hu : Unlike xs) : Unlike (lower xs) := by
  intro i j hi hj e
  rw [lower_length] at hi hj
  rw [wat_lower xs _ hi, wat_lower xs _ hj] at e
  have := hu _ _ (by split <;> omega) (by split <;> omega) e
  split at this <;> split at this <;> omega

/-- No wire is in both inner networks. -/
theorem up_low (xs : List Int) (hu : Unlike xs) {i j : Nat} (hi : i < xs.length / 2) (hj : j < xs.length - xs.length / 2) : wat (upper xs) i ≠ wat (lower xs) j := by
  intro e
  rw [wat_upper xs _ hi, wat_lower xs _ hj] at e
  have := hu _ _ (by omega) (by split <;> omega) e
  split at this <;> omega

theorem makes_more (hn : 3 ≤ n) (ho : Ord2 n σ τ) (hs : Sided n σ s) (U L : List Bool) (hU : Makes (n / 2) (upO σ s) U) (hL : Makes (n - n / 2) (loO n σ s) L) :
    Makes n σ (bitsOf (n / 2) (firstB s) ++ U ++ L ++ bitsOf (lastRow n) (lastB σ s)) := by
  intro xs hx
  obtain ⟨lU, hU⟩ := hU (upper xs) (by rw [upper_length, hx])
  obtain ⟨lL, hL⟩ := hL (lower xs) (by rw [lower_length, hx])
  rw [gatesL_more xs (by omega)]
  have hlast : 2 * lastRow n ≤ n := by unfold lastRow; omega
  have lf : (bitsOf (n / 2) (firstB s)).length = (pairs (n / 2) xs).length := by simp [bitsOf, pairs]
  have ll : (bitsOf (lastRow n) (lastB σ s)).length = (pairs (lastRow n) xs).length := by simp [bitsOf, pairs]
  rw [hx]
  refine ⟨by simp only [List.length_append, lf, ll, lU, lL], fun hu f => ?_⟩
  rw [List.zip_append (by simp only [List.length_append, lf, lU, lL]), List.zip_append (by simp only [List.length_append, lf, lU]), List.zip_append lf.symm]
  simp only [runZ_append]
  obtain ⟨f1, hf1⟩ : ∃ g, runZ ((pairs (n / 2) xs).zip (bitsOf (n / 2) (firstB s))) f = g := ⟨_, rfl⟩
  have q1 := fun a (ha : a < n) hv => first_up hs xs hx hu f (a := a) ha hv
  have q2 := fun a (ha : a < n) hv => first_low hs xs hx hu f (a := a) ha hv
  have q3 := (pairs_run xs hu (firstB s) (n / 2) (by omega) f).2
  rw [hf1] at q1 q2 q3 ⊢
  obtain ⟨u1, u2⟩ := hU (unlike_upper xs hu) f1
  obtain ⟨f2, hf2⟩ : ∃ g, runZ ((gatesL (upper xs)).zip U) f1 = g := ⟨_, rfl⟩
  rw [hf2] at u1 u2 ⊢
  obtain ⟨l1, l2⟩ := hL (unlike_lower xs hu) f2
  obtain ⟨f3, hf3⟩ : ∃ g, runZ ((gatesL (lower xs)).zip L) f2 = g := ⟨_, rfl⟩
  rw [hf3] at l1 l2 ⊢
  clear hf1 hf2 hf3 hU hL
  -- what is on the wires before the last gates
  have hup : ∀ i, i < n / 2 → f3 (wat xs (2 * i)) = f (wat xs (if s (σ (2 * i)) = 2 then σ (2 * i + 1) else σ (2 * i))) := fun i hi => by
    have e1 : f3 (wat (upper xs) i) = f2 (wat (upper xs) i) := l2 _ (fun j hj h => up_low xs hu (by omega) (by omega) h.symm)
    rw [wat_upper xs i (by omega)] at e1
    have e2 := u1 i hi
    rw [wat_upper xs i (by omega)] at e2
    rw [e1, e2]
    unfold upO
    rcases hs.twoO ho hi with ⟨h1, h2⟩ | ⟨h1, h2⟩
    · rw [if_neg (by omega)]
      exact (q1 _ (ho.s _ (by omega)) h1).2
    · rw [if_pos h1]
      exact (q1 _ (ho.s _ (by omega)) h2).2
  have low : ∀ b, b < n → s b = 2 → f2 (wat (lower xs) (b / 2)) = f (wat xs b) := fun b hb hv => by
    have e1 : f2 (wat (lower xs) (b / 2)) = f1 (wat (lower xs) (b / 2)) := u2 _ (fun j hj h => up_low xs hu (by omega) (by omega) h)
    rw [e1]
    exact (q2 b hb hv).2
  have hlo : ∀ i, i < n / 2 → f3 (wat xs (2 * i + 1)) = f (wat xs (if s (σ (2 * i)) = 2 then σ (2 * i) else σ (2 * i + 1))) := fun i hi => by
    have e2 := l1 i (by omega)
    rw [wat_lower xs i (by omega), hx, if_pos hi] at e2
    rw [e2]
    unfold loO
    rw [if_pos hi]
    rcases hs.twoO ho hi with ⟨h1, h2⟩ | ⟨h1, h2⟩
    · rw [if_neg (by omega)]
      exact low _ (ho.s _ (by omega)) h2
    · rw [if_pos h1]
      exact low _ (ho.s _ (by omega)) h1
  have hod : n % 2 = 1 → f3 (wat xs (n - 1)) = f (wat xs (σ (n - 1))) := fun hp => by
    have e2 := l1 (n / 2) (by omega)
    rw [wat_lower xs _ (by omega), hx, if_neg (by omega)] at e2
    rw [e2]
    unfold loO
    rw [if_neg (by omega)]
    exact low _ (ho.s _ (by omega)) hs.last
  have p1 := (pairs_run xs hu (lastB σ s) (lastRow n) (by omega) f3).1
  have p2 := (pairs_run xs hu (lastB σ s) (lastRow n) (by omega) f3).2
  refine ⟨fun i hi => ?_, fun m hm => ?_⟩
  · rw [p1 i (by omega)]
    by_cases him : i < 2 * (n / 2)
    · obtain ⟨j, hj⟩ : ∃ j, i / 2 = j := ⟨_, rfl⟩
      have hjn : j < n / 2 := by omega
      rw [hj]
      unfold lastB
      rcases hs.twoO ho hjn with ⟨h1, h2⟩ | ⟨h1, h2⟩
      · rw [if_neg (by simp [h1])]
        rcases Nat.mod_two_eq_zero_or_one i with hp | hp
        · obtain rfl : i = 2 * j := by omega
          rw [hup j hjn, if_neg (by omega)]
        · obtain rfl : i = 2 * j + 1 := by omega
          rw [hlo j hjn, if_neg (by omega)]
      · have hjl : i < 2 * lastRow n := by
          unfold lastRow
          rcases Nat.mod_two_eq_zero_or_one n with hp | hp
          · have h9 := hs.last
            by_cases hq : 2 * j + 1 = n - 1
            · rw [← hq, h2] at h9
              omega
            · omega
          · omega
        rw [if_pos (by simp [h1, hjl])]
        rcases Nat.mod_two_eq_zero_or_one i with hp | hp
        · obtain rfl : i = 2 * j := by omega
          rw [mate_even, hlo j hjn, if_pos h1]
        · obtain rfl : i = 2 * j + 1 := by omega
          rw [mate_odd, hup j hjn, if_pos h1]
    · have hp : n % 2 = 1 := by omega
      obtain rfl : i = n - 1 := by omega
      rw [if_neg (by unfold lastRow; omega)]
      exact hod hp
  · rw [p2 m (fun i hi => hm i (by omega)), l2 m (fun i hi h => ?_), u2 m (fun i hi h => ?_), q3 m (fun i hi => hm i (by omega))]
    · rw [wat_upper xs _ (by omega)] at h
      exact hm _ (by omega) h
    · rw [wat_lower xs _ (by omega), hx] at h
      exact hm _ (by split <;> omega) h

/-- The order of an inner network is one. -/
theorem upO_lt (ho : Ord2 n σ τ) (hs : Sided n σ s) (i : Nat) (hi : i < n / 2) : upO σ s i < n / 2 := by
  unfold upO
  have key : ∀ a, a < n → s a = 1 → a / 2 < n / 2 := fun a ha hv => by
    rcases Nat.lt_or_ge (a / 2) (n / 2) with h1 | h1
    · exact h1
    · have := hs.odd (by omega)
      rw [show n - 1 = a by omega, hv] at this
      omega
  rcases hs.twoO ho hi with ⟨h1, h2⟩ | ⟨h1, h2⟩
  · rw [if_neg (by omega)]; exact key _ (ho.s _ (by omega)) h1
  · rw [if_pos h1]; exact key _ (ho.s _ (by omega)) h2

theorem loO_lt (ho : Ord2 n σ τ) (i : Nat) (hi : i < n - n / 2) : loO n σ s i < n - n / 2 := by
  unfold loO
  split
  · have h1 := ho.s (2 * i) (by omega)
    have h2 := ho.s (2 * i + 1) (by omega)
    split <;> omega
  · have h1 := ho.s (n - 1) (by omega)
    omega

theorem same_half (h : Sided n σ s) {a b : Nat} (ha : a < n) (hb : b < n) (hs : s a = s b) (e : a / 2 = b / 2) : a = b := by
  rcases Nat.lt_or_ge (a / 2) (n / 2) with h1 | h1
  · have h2 := h.two h1
    rcases Nat.mod_two_eq_zero_or_one a with hp | hp <;> rcases Nat.mod_two_eq_zero_or_one b with hq | hq
    · omega
    · rw [show 2 * (a / 2) = a by omega, show a + 1 = b by omega] at h2
      omega
    · rw [show 2 * (a / 2) = b by omega, show b + 1 = a by omega] at h2
      omega
    · omega
  · omega

theorem upO_inj (ho : Ord2 n σ τ) (hs : Sided n σ s) (i j : Nat) (hi : i < n / 2) (hj : j < n / 2) (e : upO σ s i = upO σ s j) : i = j := by
  unfold upO at e
  have key : ∀ a b, a < n → b < n → s (σ a) = 1 → s (σ b) = 1 → σ a / 2 = σ b / 2 → a = b := fun a b ha hb h1 h2 h3 =>
    ho.inj ha hb (same_half hs (ho.s _ ha) (ho.s _ hb) (h1.trans h2.symm) h3)
  rcases hs.twoO ho hi with ⟨h1, h2⟩ | ⟨h1, h2⟩ <;> rcases hs.twoO ho hj with ⟨h3, h4⟩ | ⟨h3, h4⟩
  · rw [if_neg (by omega), if_neg (by omega)] at e
    have := key _ _ (by omega) (by omega) h1 h3 e
    omega
  · rw [if_neg (by omega), if_pos h3] at e
    have := key _ _ (by omega) (by omega) h1 h4 e
    omega
  · rw [if_pos h1, if_neg (by omega)] at e
    have := key _ _ (by omega) (by omega) h2 h3 e
    omega
  · rw [if_pos h1, if_pos h3] at e
    have := key _ _ (by omega) (by omega) h2 h4 e
    omega

/-- The wire whose row goes down at place i. -/
def lowW (n : Nat) (σ s : Nat → Nat) (i : Nat) : Nat := if i < n / 2 then (if s (σ (2 * i)) = 2 then 2 * i else 2 * i + 1) else n - 1

theorem lowW_eq (i : Nat) : loO n σ s i = σ (lowW n σ s i) / 2 := by
  unfold loO lowW
  split
  · split <;> rfl
  · rfl

theorem lowW_two (ho : Ord2 n σ τ) (hs : Sided n σ s) (i : Nat) (hi : i < n - n / 2) : lowW n σ s i < n ∧ s (σ (lowW n σ s i)) = 2 ∧ lowW n σ s i / 2 = i := by
  unfold lowW
  split
  · rename_i h0
    rcases hs.twoO ho h0 with ⟨h1, h2⟩ | ⟨h1, h2⟩
    · rw [if_neg (by omega)]; exact ⟨by omega, h2, by omega⟩
    · rw [if_pos h1]; exact ⟨by omega, h1, by omega⟩
  · exact ⟨by omega, hs.last, by omega⟩

theorem loO_inj (ho : Ord2 n σ τ) (hs : Sided n σ s) (i j : Nat) (hi : i < n - n / 2) (hj : j < n - n / 2) (e : loO n σ s i = loO n σ s j) : i = j := by
  rw [lowW_eq, lowW_eq] at e
  obtain ⟨a1, a2, a3⟩ := lowW_two ho hs i hi
  obtain ⟨b1, b2, b3⟩ := lowW_two ho hs j hj
  have := ho.inj a1 b1 (same_half hs (ho.s _ a1) (ho.s _ b1) (a2.trans b2.symm) e)
  omega

end

end Go.Proofs.Ytbjhcpchljjmhaa

/- The sides of the rows, as the program gives them: (*loops).fill. No condition. -/
namespace Go.Proofs.Ytbjhcpchljjmhaa
open Go.RowKit

set_option maxRecDepth 100000 in
set_option maxHeartbeats 1000000 in
/-- A call of follow on the last wire, whose row has a side already. -/
theorem follow_done (n : Nat) (σ τ s : Nat → Nat) (c lb ob oo oc wb sb : Nat) (hn : n ≤ 256) (h0 : 0 < n) (ho : Ord2 n σ τ) (hs : s (σ (n - 1)) ≠ 0) (W : World) (hl : LAt W lb ob oo oc wb sb n σ τ s) :
    Calls Try.prog 51 #[.pointer (some ⟨lb, 0, none⟩), iV (n - 1), iV c] W fun e W' => e = .returned (.tuple #[]) ∧ W = W' := by
  have HL := Lib.hid hl
  have hsn := ho.s (n - 1) (by omega)
  have hk0 := hl.l0
  have hk1 := hl.l1
  have hk2 := hl.l2
  have hk3 := hl.l3
  have ho1 := hl.o (n - 1) (by omega)
  have hs1 := hl.s _ hsn
  have hmo := mo_le n
  obtain ⟨row, hrow⟩ : ∃ row, σ (n - 1) = row := ⟨_, rfl⟩
  rw [hrow] at ho1 hsn hs1 hs
  obtain ⟨x, hx⟩ : ∃ x, s row = x := ⟨_, rfl⟩
  rw [hx] at hs1 hs
  have hd2 : ((x : Int) != 0) = true := by simp; omega
  have hi : (n : Int) - 1 = ((n - 1 : Nat) : Int) := by omega
  have he : (((n - 1 : Nat) : Int) == ((n : Int) - 1)) = true := by rw [hi]; simp
  clear hl ho hrow hx
  unfold iV at hk3 ho1 hs1 ⊢
  obtain ⟨m, hm⟩ : ∃ m, n - 1 = m := ⟨_, rfl⟩
  have hmn : m < n := by omega
  rw [hm] at hi he ho1 ⊢
  by_cases hlt : m < mo n
  · have hd1 : decide ((m : Int) < (mo n : Int)) = true := decide_eq_true (by omega)
    clear hm hi
    go_enter Try.func51, Try.ntmps51
    go_wp2_with fail
    refine wp_loop_rounds 1 ?_
    rw [rounds_succ]
    go_wp2_with fail
    exact bodyPost_ret (results_none rfl _ _ _) rfl ⟨rfl, rfl⟩
  · have hd1 : decide ((m : Int) < (mo n : Int)) = false := decide_eq_false (by omega)
    clear hm
    go_enter Try.func51, Try.ntmps51
    go_wp2_with fail
    refine wp_loop_rounds 1 ?_
    rw [rounds_succ]
    go_wp2_with fail
    exact bodyPost_ret (results_none rfl _ _ _) rfl ⟨rfl, rfl⟩

/-- All is closed, and the last wire is fed from below. -/
structure Fed (n : Nat) (σ τ s : Nat → Nat) : Prop where
  cl : Closed n σ τ none0 s
  last : s (σ (n - 1)) = 2
  odd : n % 2 = 1 → s (n - 1) = 2

theorem Fed.ext {n : Nat} {σ τ s s' : Nat → Nat} (h : Fed n σ τ s) (ho : Ord2 n σ τ) (hn : 0 < n) (he : Ext n s s') (hc : Closed n σ τ none0 s') : Fed n σ τ s' :=
  ⟨hc, by rw [he _ (ho.s _ (by omega)) (by rw [h.last]; decide)]; exact h.last, fun hp => by rw [he _ (by omega) (by rw [h.odd hp]; decide)]; exact h.odd hp⟩

/-- The state in which the path of the last row of an odd number begins. -/
theorem path_way {n : Nat} {σ τ : Nat → Nat} (ho : Ord2 n σ τ) (hp : n % 2 = 1) (ht : τ (n - 1) < mo n) : Way n σ τ 1 n (mate (τ (n - 1))) (upd (fun _ => 0) (n - 1) 2) := by
  have hm := (mate_lt (r := τ (n - 1)) (mo_even n)).2 ht
  have hle := mo_le n
  refine Or.inr ⟨n - 1, by omega, ht, rfl, by unfold upd; rw [if_pos rfl], fun h => by omega, fun hs => ?_, ⟨fun r hr => by unfold upd; split <;> simp, fun r hr hs hr2 => ?_, fun r hr hs htr hx => ?_⟩⟩
  · exfalso
    unfold upd at hs
    by_cases h : σ (mate (τ (n - 1))) = n - 1
    · have h1 := ho.ts (mate (τ (n - 1))) (by omega)
      rw [h] at h1
      exact mate_ne _ h1.symm
    · rw [if_neg h] at hs
      exact hs rfl
  · unfold upd at hs
    by_cases h : r = n - 1
    · unfold mo at hr2
      omega
    · rw [if_neg h] at hs
      exact absurd rfl hs
  · unfold upd at hs
    by_cases h : r = n - 1
    · exact absurd (Or.inr h) hx
    · rw [if_neg h] at hs
      exact absurd rfl hs

theorem path_none {n : Nat} {σ τ : Nat → Nat} (hp : n % 2 = 1) (ht : ¬ τ (n - 1) < mo n) : Closed n σ τ none0 (upd (fun _ => 0) (n - 1) 2) := by
  refine ⟨fun r hr => by unfold upd; split <;> simp, fun r hr hs hr2 => ?_, fun r hr hs htr hx => ?_⟩
  · unfold upd at hs
    by_cases h : r = n - 1
    · unfold mo at hr2
      omega
    · rw [if_neg h] at hs
      exact absurd rfl hs
  · unfold upd at hs
    by_cases h : r = n - 1
    · subst h
      exact absurd htr ht
    · rw [if_neg h] at hs
      exact absurd rfl hs

theorem even_way {n : Nat} {σ τ : Nat → Nat} (hn : 0 < n) (hp : n % 2 = 0) : Way n σ τ 2 (σ (n - 1)) (n - 1) (fun _ => 0) :=
  Or.inl ⟨⟨fun _ _ => by decide, fun _ _ h => absurd rfl h, fun _ _ h => absurd rfl h⟩, by unfold mo; omega, rfl⟩

/-- When all rows have a side. -/
theorem Fed.sided {n : Nat} {σ τ s : Nat → Nat} (h : Fed n σ τ s) (ho : Ord2 n σ τ) (hn : 0 < n) (hall : ∀ r, r < mo n → s r ≠ 0) : Sided n σ s := by
  have hle := mo_le n
  have hset : ∀ r, r < n → s r ≠ 0 := fun r hr => by
    rcases Nat.lt_or_ge r (mo n) with h1 | h1
    · exact hall r h1
    · have h2 : r = n - 1 ∧ n % 2 = 1 := by unfold mo at h1; omega
      rw [h2.1, h.odd h2.2]
      decide
  refine ⟨fun r hr => ?_, fun r hr => h.cl.inn r (by omega) (hset r (by omega)) hr, fun i hi => ?_, h.last, h.odd⟩
  · have := hset r hr
    have := h.cl.val r hr
    omega
  · have h1 := h.cl.out (σ i) (ho.s i (by omega)) (hset _ (ho.s i (by omega))) (by rw [ho.ts i (by omega)]; exact hi) (fun h => h)
    rw [ho.ts i (by omega)] at h1
    exact h1

theorem grown_trans {a b c : World} {r : Option Nat} (h1 : a.grownBy b r) (h2 : b.grownBy c r) : a.grownBy c r :=
  ⟨h2.os.trans h1.os, h2.tape.trans h1.tape, h2.output.trans h1.output, Nat.le_trans h1.size h2.size, fun k hk hne => (h2.block k (Nat.lt_of_lt_of_le hk h1.size) hne).trans (h1.block k hk hne)⟩

def Filled (n : Nat) (σ τ : Nat → Nat) (lb ob oo oc wb sb : Nat) (W : World) (e : Ending) (W' : World) : Prop :=
  e = .returned (.tuple #[]) ∧ ∃ s, LAt W' lb ob oo oc wb sb n σ τ s ∧ W.grownBy W' (some sb) ∧ Sided n σ s


set_option maxRecDepth 100000 in
set_option maxHeartbeats 2000000 in
theorem fill_even (n : Nat) (σ τ : Nat → Nat) (lb ob oo oc wb sb : Nat) (hn256 : n ≤ 256) (hn0 : 0 < n) (hp : n % 2 = 0) (ho : Ord2 n σ τ) (W : World) (hl : LAt W lb ob oo oc wb sb n σ τ (fun _ => 0)) :
    Calls Try.prog 44 #[.pointer (some ⟨lb, 0, none⟩)] W (Filled n σ τ lb ob oo oc wb sb W) := by
  have hfw := follow_any n σ τ (fun _ => 0) 2 (n - 1) (σ (n - 1)) lb ob oo oc wb sb hn256 (Nat.le_of_lt (ho.s _ (by omega))) ho (Or.inr rfl) (even_way hn0 hp) (fun h => by omega) W hl
  have HFW := Lib.hid hfw
  have hk0 := hl.l0
  have HO := Lib.hid ho
  have hd0 : ((n : Int) % 2 == 1) = false := by simp; omega
  have hi : (n : Int) - 1 = ((n - 1 : Nat) : Int) := by omega
  clear hl ho hfw
  go_enter Try.func44, Try.ntmps44
  go_wp2_with fail
  refine HFW.out.mono ?_
  rintro e w1 ⟨rfl, s0, hl1, hg1, he1, hc1, hr1, -⟩
  have HL := Lib.hid hl1
  have HGR := Lib.hid hg1
  have HFD : Hid (Fed n σ τ s0) := ⟨hc1, (hr1 (HO.out.s _ (by omega))).2 rfl, fun h => by omega⟩
  clear hl1 hg1 he1 hc1 hr1 HFW
  have hk1 := HL.out.l0
  go_wp2_with fail
  go_loopw [4] (fun i wr => ∃ (j : Nat) (s1 : Nat → Nat), 2 * j ≤ mo n ∧ i = .int .i64 ((2 * j : Nat) : Int) ∧ Hid (LAt wr lb ob oo oc wb sb n σ τ s1) ∧ Hid (Fed n σ τ s1) ∧ Hid (W.grownBy wr (some sb)) ∧ Hid (∀ r, r < 2 * j → s1 r ≠ 0)) (fun i _ => mo n - (intOf i).toNat)
  case atStart => exact ⟨0, _, by omega, rfl, HL.out, HFD.out, HGR.out, fun r hr => by omega⟩
  case round =>
    clear HL HFD HGR
    obtain ⟨j, s1, hj, rfl, HL, HFD, HGR, HALL⟩ := hrel
    have hk0 := HL.out.l0
    have hk1 := HL.out.l1
    have hk2 := HL.out.l2
    have hk3 := HL.out.l3
    unfold iV at hk3
    by_cases hjl : 2 * j < mo n
    · have hjn : 2 * j < n := by have := mo_le n; omega
      have ht1 := HL.out.t (2 * j) hjn
      have htn := HO.out.t (2 * j) hjn
      have hst := HO.out.st (2 * j) hjn
      unfold iV at ht1
      obtain ⟨wi, hwi⟩ : ∃ wi, τ (2 * j) = wi := ⟨_, rfl⟩
      rw [hwi] at ht1 htn hst
      have HWI := Lib.hid hwi
      have HST := Lib.hid hst
      clear hwi hst
      have hd1 : decide (((2 * j : Nat) : Int) < (mo n : Int)) = true := decide_eq_true (by omega)
      have hnx : ((2 * j : Nat) : Int) + 2 = ((2 * (j + 1) : Nat) : Int) := by omega
      have hj2 : 2 * (j + 1) ≤ mo n := by have := mo_even n; omega
      go_wp2_with fail
      by_cases hwm : wi < mo n
      · have hfw := follow_any n σ τ s1 1 wi (2 * j) lb ob oo oc wb sb hn256 (by omega) HO.out (Or.inl rfl) (Or.inl ⟨HFD.out.cl, hwm, HST.out⟩) (fun hp => ⟨by rw [HFD.out.odd hp]; decide, fun _ => by rw [HFD.out.last]; decide⟩) wr HL.out
        refine hfw.mono ?_
        rintro e w2 ⟨rfl, s2, hl2, hg2, he2, hc2, hr2, -⟩
        have HL2 := Lib.hid hl2
        have HF2 : Hid (Fed n σ τ s2) := HFD.out.ext HO.out hn0 he2 hc2
        have HG2 : Hid (W.grownBy w2 (some sb)) := grown_trans HGR.out hg2
        have HA2 : Hid (∀ r, r < 2 * (j + 1) → s2 r ≠ 0) := fun r hr => by
          have h0 := (hr2 (by omega)).1
          rcases Nat.lt_or_ge r (2 * j) with h | h
          · rw [he2 r (by omega) (HALL.out r h)]; exact HALL.out r h
          · by_cases e1 : r = 2 * j
            · rw [e1]; exact h0
            · have h9 := hc2.inn (2 * j) (by omega) h0 hjl
              rw [mate_even] at h9
              have h8 := hc2.val (2 * j) (by omega)
              have : r = 2 * j + 1 := by omega
              rw [this, h9]
              omega
        clear hl2 hg2 he2 hc2 hr2 hfw
        go_wp2_with fail
        go_roundw
        case rel => exact ⟨j + 1, s2, hj2, by first | rfl | rw [hnx], HL2.out, HF2.out, HG2.out, HA2.out⟩
        case measure => simp [intOf]; omega
      · have hwn : wi = n - 1 := by unfold mo at hwm; omega
        subst hwn
        have hset : s1 (σ (n - 1)) ≠ 0 := by rw [HFD.out.last]; decide
        have hfw := follow_done n σ τ s1 1 lb ob oo oc wb sb hn256 hn0 HO.out hset wr HL.out
        refine hfw.mono ?_
        rintro e w2 ⟨rfl, rfl⟩
        have HA2 : Hid (∀ r, r < 2 * (j + 1) → s1 r ≠ 0) := fun r hr => by
          have h0 : s1 (2 * j) ≠ 0 := by rw [← HST.out]; exact hset
          rcases Nat.lt_or_ge r (2 * j) with h | h
          · exact HALL.out r h
          · by_cases e1 : r = 2 * j
            · rw [e1]; exact h0
            · have h9 := HFD.out.cl.inn (2 * j) (by omega) h0 hjl
              rw [mate_even] at h9
              have h8 := HFD.out.cl.val (2 * j) (by omega)
              have : r = 2 * j + 1 := by omega
              rw [this, h9]
              omega
        clear hfw hset
        go_wp2_with fail
        go_roundw
        case rel => exact ⟨j + 1, s1, hj2, by first | rfl | rw [hnx], HL.out, HFD.out, HGR.out, HA2.out⟩
        case measure => simp [intOf]; omega
    · have hd1 : decide (((2 * j : Nat) : Int) < (mo n : Int)) = false := decide_eq_false (by omega)
      have HF : Hid (Filled n σ τ lb ob oo oc wb sb W (.returned (.tuple #[])) wr) :=
        ⟨rfl, s1, HL.out, HGR.out, HFD.out.sided HO.out hn0 (fun r hr => HALL.out r (by omega))⟩
      go_wp2_with fail
      go_end0
      exact HF.out

set_option maxRecDepth 100000 in
set_option maxHeartbeats 2000000 in
theorem fill_odd (n : Nat) (σ τ : Nat → Nat) (lb ob oo oc wb sb : Nat) (hn256 : n ≤ 256) (hn0 : 0 < n) (hp : n % 2 = 1) (ho : Ord2 n σ τ) (W : World) (hl : LAt W lb ob oo oc wb sb n σ τ (fun _ => 0)) :
    Calls Try.prog 44 #[.pointer (some ⟨lb, 0, none⟩)] W (Filled n σ τ lb ob oo oc wb sb W) := by
  have hl1 : LAt (W.setCell ⟨sb, n - 1, none⟩ (.int .i64 2)) lb ob oo oc wb sb n σ τ (upd (fun _ => 0) (n - 1) 2) := hl.set (n - 1) 2 (by omega)
  have hk0 := hl.l0
  have hk2 := hl.l2
  have hs0 := hl.s (n - 1) (by omega)
  have hf0 := hl.f (n - 1)
  have hg1 : W.grownBy (W.setCell ⟨sb, n - 1, none⟩ (.int .i64 2)) (some sb) :=
    ⟨rfl, rfl, rfl, by simp [World.setCell], fun k hk hne => by rw [Below.heap_setCell _ _ _ _ (by simpa using fun e : k = sb => hne (by rw [e]))]⟩
  obtain ⟨w1, hw1⟩ : ∃ w1, W.setCell ⟨sb, n - 1, none⟩ (.int .i64 2) = w1 := ⟨_, rfl⟩
  rw [hw1] at hl1 hg1
  have HL1 := Lib.hid hl1
  clear hl1
  have HG1 := Lib.hid hg1
  have HO := Lib.hid ho
  have HP := Lib.hid hp
  have htn := ho.t (n - 1) (by omega)
  have hd0 : ((n : Int) % 2 == 1) = true := by simp; omega
  have hi : (n : Int) - 1 = ((n - 1 : Nat) : Int) := by omega
  have a0 := HL1.out.l0
  have a1 := HL1.out.l1
  have a2 := HL1.out.l2
  have a3 := HL1.out.l3
  have a4 := HL1.out.t (n - 1) (by omega)
  unfold iV at a3 a4 hs0
  have hxr := xor_one (τ (n - 1)) (by omega)
  have hlp : n - 1 < n := by omega
  clear hl ho hp hg1
  by_cases htm : τ (n - 1) < mo n
  · have hm := (mate_lt (r := τ (n - 1)) (mo_even n)).2 htm
    have hd1 : decide (((mate (τ (n - 1)) : Nat) : Int) < (mo n : Int)) = true := decide_eq_true (by omega)
    have hmo := mo_le n
    have HW1 := Lib.hid (path_way HO.out HP.out htm)
    obtain ⟨tw, htw⟩ : ∃ tw, mate (τ (n - 1)) = tw := ⟨_, rfl⟩
    rw [htw] at hxr hm hd1 HW1
    have hfw := follow_any n σ τ (upd (fun _ => 0) (n - 1) 2) 1 tw n lb ob oo oc wb sb hn256 (Nat.le_refl _) HO.out (Or.inl rfl) HW1.out (fun _ => ⟨by unfold upd; rw [if_pos rfl]; decide, fun h => by omega⟩) w1 HL1.out
    have HFW := Lib.hid hfw
    clear htw hfw htm
    go_enter Try.func44, Try.ntmps44
    go_wp2_with fail
    refine HFW.out.mono ?_
    rintro e w2 ⟨rfl, s0, hl1, hg1, he1, hc1, -, hr1⟩
    have HL2 := Lib.hid hl1
    have HGR := Lib.hid (grown_trans HG1.out hg1)
    have HFD : Hid (Fed n σ τ s0) := ⟨hc1, hr1 rfl, fun h => by rw [he1 (n - 1) hlp (by unfold upd; rw [if_pos rfl]; decide)]; unfold upd; rw [if_pos rfl]⟩
    clear hl1 hg1 he1 hc1 hr1 HFW HL1 HG1 HW1 a0 a1 a2 a3 a4 hk0 hk2 hs0 hf0 hw1
    have hk1 := HL2.out.l0
    go_wp2_with fail
    refine (follow_done n σ τ s0 2 lb ob oo oc wb sb hn256 hn0 HO.out (by rw [HFD.out.last]; decide) w2 HL2.out).mono ?_
    rintro e w3 ⟨rfl, rfl⟩
    have HL := HL2
    clear HL2 hk1
    go_wp2_with fail
    go_loopw [4] (fun i wr => ∃ (j : Nat) (s1 : Nat → Nat), 2 * j ≤ mo n ∧ i = .int .i64 ((2 * j : Nat) : Int) ∧ Hid (LAt wr lb ob oo oc wb sb n σ τ s1) ∧ Hid (Fed n σ τ s1) ∧ Hid (W.grownBy wr (some sb)) ∧ Hid (∀ r, r < 2 * j → s1 r ≠ 0)) (fun i _ => mo n - (intOf i).toNat)
    case atStart => exact ⟨0, _, by omega, rfl, HL.out, HFD.out, HGR.out, fun r hr => by omega⟩
    case round =>
      clear HL HFD HGR
      obtain ⟨j, s1, hj, rfl, HL, HFD, HGR, HALL⟩ := hrel
      have hk0 := HL.out.l0
      have hk1 := HL.out.l1
      have hk2 := HL.out.l2
      have hk3 := HL.out.l3
      unfold iV at hk3
      by_cases hjl : 2 * j < mo n
      · have hjn : 2 * j < n := by have := mo_le n; omega
        have ht1 := HL.out.t (2 * j) hjn
        have htn := HO.out.t (2 * j) hjn
        have hst := HO.out.st (2 * j) hjn
        unfold iV at ht1
        obtain ⟨wi, hwi⟩ : ∃ wi, τ (2 * j) = wi := ⟨_, rfl⟩
        rw [hwi] at ht1 htn hst
        have HWI := Lib.hid hwi
        have HST := Lib.hid hst
        clear hwi hst
        have hd1 : decide (((2 * j : Nat) : Int) < (mo n : Int)) = true := decide_eq_true (by omega)
        have hnx : ((2 * j : Nat) : Int) + 2 = ((2 * (j + 1) : Nat) : Int) := by omega
        have hj2 : 2 * (j + 1) ≤ mo n := by have := mo_even n; omega
        go_wp2_with fail
        by_cases hwm : wi < mo n
        · have hfw := follow_any n σ τ s1 1 wi (2 * j) lb ob oo oc wb sb hn256 (by omega) HO.out (Or.inl rfl) (Or.inl ⟨HFD.out.cl, hwm, HST.out⟩) (fun hp => ⟨by rw [HFD.out.odd hp]; decide, fun _ => by rw [HFD.out.last]; decide⟩) wr HL.out
          refine hfw.mono ?_
          rintro e w2 ⟨rfl, s2, hl2, hg2, he2, hc2, hr2, -⟩
          have HL2 := Lib.hid hl2
          have HF2 : Hid (Fed n σ τ s2) := HFD.out.ext HO.out hn0 he2 hc2
          have HG2 : Hid (W.grownBy w2 (some sb)) := grown_trans HGR.out hg2
          have HA2 : Hid (∀ r, r < 2 * (j + 1) → s2 r ≠ 0) := fun r hr => by
            have h0 := (hr2 (by omega)).1
            rcases Nat.lt_or_ge r (2 * j) with h | h
            · rw [he2 r (by omega) (HALL.out r h)]; exact HALL.out r h
            · by_cases e1 : r = 2 * j
              · rw [e1]; exact h0
              · have h9 := hc2.inn (2 * j) (by omega) h0 hjl
                rw [mate_even] at h9
                have h8 := hc2.val (2 * j) (by omega)
                have : r = 2 * j + 1 := by omega
                rw [this, h9]
                omega
          clear hl2 hg2 he2 hc2 hr2 hfw
          go_wp2_with fail
          go_roundw
          case rel => exact ⟨j + 1, s2, hj2, by first | rfl | rw [hnx], HL2.out, HF2.out, HG2.out, HA2.out⟩
          case measure => simp [intOf]; omega
        · have hwn : wi = n - 1 := by unfold mo at hwm; omega
          subst hwn
          have hset : s1 (σ (n - 1)) ≠ 0 := by rw [HFD.out.last]; decide
          have hfw := follow_done n σ τ s1 1 lb ob oo oc wb sb hn256 hn0 HO.out hset wr HL.out
          refine hfw.mono ?_
          rintro e w2 ⟨rfl, rfl⟩
          have HA2 : Hid (∀ r, r < 2 * (j + 1) → s1 r ≠ 0) := fun r hr => by
            have h0 : s1 (2 * j) ≠ 0 := by rw [← HST.out]; exact hset
            rcases Nat.lt_or_ge r (2 * j) with h | h
            · exact HALL.out r h
            · by_cases e1 : r = 2 * j
              · rw [e1]; exact h0
              · have h9 := HFD.out.cl.inn (2 * j) (by omega) h0 hjl
                rw [mate_even] at h9
                have h8 := HFD.out.cl.val (2 * j) (by omega)
                have : r = 2 * j + 1 := by omega
                rw [this, h9]
                omega
          clear hfw hset
          go_wp2_with fail
          go_roundw
          case rel => exact ⟨j + 1, s1, hj2, by first | rfl | rw [hnx], HL.out, HFD.out, HGR.out, HA2.out⟩
          case measure => simp [intOf]; omega
      · have hd1 : decide (((2 * j : Nat) : Int) < (mo n : Int)) = false := decide_eq_false (by omega)
        have HF : Hid (Filled n σ τ lb ob oo oc wb sb W (.returned (.tuple #[])) wr) :=
          ⟨rfl, s1, HL.out, HGR.out, HFD.out.sided HO.out hn0 (fun r hr => HALL.out r (by omega))⟩
        go_wp2_with fail
        go_end0
        exact HF.out
  · have hmt := mate_lt (r := τ (n - 1)) (mo_even n)
    have hd1 : decide (((mate (τ (n - 1)) : Nat) : Int) < (mo n : Int)) = false := decide_eq_false (by omega)
    have hq : σ (n - 1) = n - 1 := by
      have h1 : τ (n - 1) = n - 1 := by unfold mo at htm; omega
      have h2 := HO.out.st (n - 1) hlp
      rwa [h1] at h2
    have HFD : Hid (Fed n σ τ (upd (fun _ => 0) (n - 1) 2)) := ⟨path_none HP.out htm, by rw [hq]; unfold upd; rw [if_pos rfl], fun _ => by unfold upd; rw [if_pos rfl]⟩
    obtain ⟨tw, htw⟩ : ∃ tw, mate (τ (n - 1)) = tw := ⟨_, rfl⟩
    rw [htw] at hxr hmt hd1
    have hle9 : ¬ tw < mo n := by omega
    clear htw hmt htm hq
    have hfw := follow_done n σ τ (upd (fun _ => 0) (n - 1) 2) 2 lb ob oo oc wb sb hn256 hn0 HO.out (by rw [HFD.out.last]; decide) w1 HL1.out
    have HFW := Lib.hid hfw
    clear hfw
    go_enter Try.func44, Try.ntmps44
    go_wp2_with fail
    refine HFW.out.mono ?_
    rintro e w2 ⟨rfl, rfl⟩
    have HL := HL1
    have HGR := HG1
    clear HL1 HG1 a0 a1 a2 a3 a4 hk0 hk2 hs0 hf0
    clear hw1
    go_wp2_with fail
    go_loopw [4] (fun i wr => ∃ (j : Nat) (s1 : Nat → Nat), 2 * j ≤ mo n ∧ i = .int .i64 ((2 * j : Nat) : Int) ∧ Hid (LAt wr lb ob oo oc wb sb n σ τ s1) ∧ Hid (Fed n σ τ s1) ∧ Hid (W.grownBy wr (some sb)) ∧ Hid (∀ r, r < 2 * j → s1 r ≠ 0)) (fun i _ => mo n - (intOf i).toNat)
    case atStart => exact ⟨0, _, by omega, rfl, HL.out, HFD.out, HGR.out, fun r hr => by omega⟩
    case round =>
      clear HL HFD HGR
      obtain ⟨j, s1, hj, rfl, HL, HFD, HGR, HALL⟩ := hrel
      have hk0 := HL.out.l0
      have hk1 := HL.out.l1
      have hk2 := HL.out.l2
      have hk3 := HL.out.l3
      unfold iV at hk3
      by_cases hjl : 2 * j < mo n
      · have hjn : 2 * j < n := by have := mo_le n; omega
        have ht1 := HL.out.t (2 * j) hjn
        have htn := HO.out.t (2 * j) hjn
        have hst := HO.out.st (2 * j) hjn
        unfold iV at ht1
        obtain ⟨wi, hwi⟩ : ∃ wi, τ (2 * j) = wi := ⟨_, rfl⟩
        rw [hwi] at ht1 htn hst
        have HWI := Lib.hid hwi
        have HST := Lib.hid hst
        clear hwi hst
        have hd1 : decide (((2 * j : Nat) : Int) < (mo n : Int)) = true := decide_eq_true (by omega)
        have hnx : ((2 * j : Nat) : Int) + 2 = ((2 * (j + 1) : Nat) : Int) := by omega
        have hj2 : 2 * (j + 1) ≤ mo n := by have := mo_even n; omega
        go_wp2_with fail
        by_cases hwm : wi < mo n
        · have hfw := follow_any n σ τ s1 1 wi (2 * j) lb ob oo oc wb sb hn256 (by omega) HO.out (Or.inl rfl) (Or.inl ⟨HFD.out.cl, hwm, HST.out⟩) (fun hp => ⟨by rw [HFD.out.odd hp]; decide, fun _ => by rw [HFD.out.last]; decide⟩) wr HL.out
          refine hfw.mono ?_
          rintro e w2 ⟨rfl, s2, hl2, hg2, he2, hc2, hr2, -⟩
          have HL2 := Lib.hid hl2
          have HF2 : Hid (Fed n σ τ s2) := HFD.out.ext HO.out hn0 he2 hc2
          have HG2 : Hid (W.grownBy w2 (some sb)) := grown_trans HGR.out hg2
          have HA2 : Hid (∀ r, r < 2 * (j + 1) → s2 r ≠ 0) := fun r hr => by
            have h0 := (hr2 (by omega)).1
            rcases Nat.lt_or_ge r (2 * j) with h | h
            · rw [he2 r (by omega) (HALL.out r h)]; exact HALL.out r h
            · by_cases e1 : r = 2 * j
              · rw [e1]; exact h0
              · have h9 := hc2.inn (2 * j) (by omega) h0 hjl
                rw [mate_even] at h9
                have h8 := hc2.val (2 * j) (by omega)
                have : r = 2 * j + 1 := by omega
                rw [this, h9]
                omega
          clear hl2 hg2 he2 hc2 hr2 hfw
          go_wp2_with fail
          go_roundw
          case rel => exact ⟨j + 1, s2, hj2, by first | rfl | rw [hnx], HL2.out, HF2.out, HG2.out, HA2.out⟩
          case measure => simp [intOf]; omega
        · have hwn : wi = n - 1 := by unfold mo at hwm; omega
          subst hwn
          have hset : s1 (σ (n - 1)) ≠ 0 := by rw [HFD.out.last]; decide
          have hfw := follow_done n σ τ s1 1 lb ob oo oc wb sb hn256 hn0 HO.out hset wr HL.out
          refine hfw.mono ?_
          rintro e w2 ⟨rfl, rfl⟩
          have HA2 : Hid (∀ r, r < 2 * (j + 1) → s1 r ≠ 0) := fun r hr => by
            have h0 : s1 (2 * j) ≠ 0 := by rw [← HST.out]; exact hset
            rcases Nat.lt_or_ge r (2 * j) with h | h
            · exact HALL.out r h
            · by_cases e1 : r = 2 * j
              · rw [e1]; exact h0
              · have h9 := HFD.out.cl.inn (2 * j) (by omega) h0 hjl
                rw [mate_even] at h9
                have h8 := HFD.out.cl.val (2 * j) (by omega)
                have : r = 2 * j + 1 := by omega
                rw [this, h9]
                omega
          clear hfw hset
          go_wp2_with fail
          go_roundw
          case rel => exact ⟨j + 1, s1, hj2, by first | rfl | rw [hnx], HL.out, HFD.out, HGR.out, HA2.out⟩
          case measure => simp [intOf]; omega
      · have hd1 : decide (((2 * j : Nat) : Int) < (mo n : Int)) = false := decide_eq_false (by omega)
        have HF : Hid (Filled n σ τ lb ob oo oc wb sb W (.returned (.tuple #[])) wr) :=
          ⟨rfl, s1, HL.out, HGR.out, HFD.out.sided HO.out hn0 (fun r hr => HALL.out r (by omega))⟩
        go_wp2_with fail
        go_end0
        exact HF.out

theorem fill_any (n : Nat) (σ τ : Nat → Nat) (lb ob oo oc wb sb : Nat) (hn256 : n ≤ 256) (hn0 : 0 < n) (ho : Ord2 n σ τ) (W : World) (hl : LAt W lb ob oo oc wb sb n σ τ (fun _ => 0)) :
    Calls Try.prog 44 #[.pointer (some ⟨lb, 0, none⟩)] W (Filled n σ τ lb ob oo oc wb sb W) := by
  rcases Nat.mod_two_eq_zero_or_one n with h | h
  · exact fill_even n σ τ lb ob oo oc wb sb hn256 hn0 h ho W hl
  · exact fill_odd n σ τ lb ob oo oc wb sb hn256 hn0 h ho W hl

end Go.Proofs.Ytbjhcpchljjmhaa

/- A list that a closure appends to: what it holds, and what a call that goes on with it leaves as it was. No condition beyond those that each names. -/
namespace Go.Proofs.Ytbjhcpchljjmhaa
open Go.RowKit

/-- From w to w': all blocks that were there are as they were, but for the cell L and the list's own row; the list's row is the old one or a new block. -/
structure GStep (w w' : World) (L : Nat) (v v' : Value) : Prop where
  os : w'.os = w.os
  tape : w'.tape = w.tape
  output : w'.output = w.output
  size : w.heap.size ≤ w'.heap.size
  keep : ∀ k, k < w.heap.size → k ≠ L → v.ownBlock ≠ some k → w'.heap[k]? = w.heap[k]?
  next : ∀ k, v'.ownBlock = some k → v.ownBlock = some k ∨ w.heap.size ≤ k

/-- A block that no append to the list touches. -/
def Safe (w : World) (L : Nat) (v : Value) (b : Nat) : Prop := b < w.heap.size ∧ b ≠ L ∧ v.ownBlock ≠ some b

section
variable {w w1 w2 w' : World} {L : Nat} {v v1 v2 v' : Value}
theorem GStep.refl (w : World) (L : Nat) (v : Value) : GStep w w L v v := ⟨rfl, rfl, rfl, Nat.le_refl _, fun _ _ _ _ => rfl, fun _ h => Or.inl h⟩
theorem GStep.of_below (h : Below w.heap.size w w') (L : Nat) (v : Value) : GStep w w' L v v := ⟨h.os, h.tape, h.output, h.size, fun k hk _ _ => h.block k hk, fun _ h => Or.inl h⟩
theorem Safe.step {b : Nat} (hs : Safe w L v b) (h : GStep w w' L v v') : Safe w' L v' b :=
  ⟨Nat.lt_of_lt_of_le hs.1 h.size, hs.2.1, fun e => by rcases h.next _ e with h1 | h1; exact hs.2.2 h1; have := hs.1; omega⟩
theorem GStep.trans (h1 : GStep w w1 L v v1) (h2 : GStep w1 w2 L v1 v2) : GStep w w2 L v v2 := by
  refine ⟨h2.os.trans h1.os, h2.tape.trans h1.tape, h2.output.trans h1.output, Nat.le_trans h1.size h2.size, fun k hk hL hv => ?_, fun k hk => ?_⟩
  · have hs := Safe.step (b := k) ⟨hk, hL, hv⟩ h1
    exact (h2.keep k hs.1 hs.2.1 hs.2.2).trans (h1.keep k hk hL hv)
  · rcases h2.next k hk with h | h
    · exact h1.next k h
    · exact Or.inr (Nat.le_trans h1.size h)
theorem GStep.block {b : Nat} (h : GStep w w' L v v') (hs : Safe w L v b) : w'.heap[b]? = w.heap[b]? := h.keep b hs.1 hs.2.1 hs.2.2
theorem GStep.cell {b : Nat} (h : GStep w w' L v v') (hs : Safe w L v b) (o : Nat) : w'.cell? ⟨b, o, none⟩ = w.cell? ⟨b, o, none⟩ :=
  World.cell?_of_block (w := w) (a := ⟨b, o, none⟩) (h.block hs)
theorem GStep.below {B : Nat} (h : GStep w w' L v v') (hL : B ≤ L) (hv : ∀ q, v.ownBlock = some q → B ≤ q) (hB : B ≤ w.heap.size) : Below B w w' :=
  ⟨h.os, h.tape, h.output, h.size, fun k hk => h.keep k (by omega) (by omega) (fun e => by have := hv k e; omega)⟩
theorem Sl.gstep {a : Option Addr} {cs : List Value} (h : Sl w w.heap.size a cs) (hs : ∀ b o, a = some ⟨b, o, none⟩ → Safe w L v b) (hg : GStep w w' L v v') : Sl w' w'.heap.size a cs := by
  rcases h with rfl | ⟨b, off, rfl, hb, hc⟩
  · exact Or.inl rfl
  · exact Or.inr ⟨b, off, rfl, Nat.lt_of_lt_of_le hb hg.size, fun i u hu => by rw [hg.cell (hs b off rfl)]; exact hc i u hu⟩
end

def flat (gs : List (Int × Int)) : List Value := gs.flatMap fun g => [.int .i64 g.1, .int .i64 g.2]
theorem flat_append (a b : List (Int × Int)) : flat (a ++ b) = flat a ++ flat b := by simp [flat]
theorem flat_length (gs : List (Int × Int)) : (flat gs).length = gs.length * 2 := by
  induction gs with
  | nil => rfl
  | cons g gs ih => simp only [flat, List.flatMap_cons, List.length_append, List.length_cons, List.length_nil] at *; omega

/-- The cell L holds the list v, which holds the gates gs. -/
structure Gath (w : World) (L : Nat) (gs : List (Int × Int)) (v : Value) : Prop where
  blk : w.heap[L]? = some (.cells #[v] 29 (0, 0))
  own : w.ownsRow 0 33 2 v gs.length (flat gs)
  ne : v.ownBlock ≠ some L

theorem Gath.below {w w' : World} {L : Nat} {gs : List (Int × Int)} {v : Value} (h : Gath w L gs v) (hb : Below w.heap.size w w') : Gath w' L gs v :=
  ⟨(hb.block L (Array.getElem?_eq_some_iff.1 h.blk).1).trans h.blk, h.own.kept (below_grown hb) (by cases v.ownBlock <;> simp), h.ne⟩
theorem Gath.lt {w : World} {L : Nat} {gs : List (Int × Int)} {v : Value} (h : Gath w L gs v) : L < w.heap.size := (Array.getElem?_eq_some_iff.1 h.blk).1
theorem Gath.safe {w : World} {L : Nat} {gs : List (Int × Int)} {v : Value} (_ : Gath w L gs v) {w' : World} {b : Nat} (hb : w.heap.size ≤ b) (hb' : b < w'.heap.size) (hL : L < w.heap.size) (hv : ∀ q, v.ownBlock = some q → q < w.heap.size) : Safe w' L v b :=
  ⟨hb', by omega, fun e => by have := hv b e; omega⟩

/-- What is behind a call that appends the gates hs to the list of the cell L. -/
def Adds (w : World) (L : Nat) (gs hs : List (Int × Int)) (v : Value) (e : Ending) (w' : World) : Prop :=
  e = .returned (.tuple #[]) ∧ ∃ v', Gath w' L (gs ++ hs) v' ∧ GStep w w' L v v'

theorem infoGate : (Try.prog.info? 33).map (fun i => (i.zero, i.size, i.bytes)) = some (some (.agg #[.int .i64 0, .int .i64 0]), 2, 16) := by kernel_rfl
theorem infoInt : (Try.prog.info? 3).map (fun i => (i.zero, i.size, i.bytes)) = some (some (.int .i64 0), 1, 8) := by kernel_rfl

set_option maxHeartbeats 400000 in
theorem yield_any (x y : Int) (L : Nat) (gs : List (Int × Int)) (v : Value) (w : World) (hg : Gath w L gs v) (hn : gs.length + 1 ≤ 1000000) :
    Calls Try.prog 39 #[.agg #[.int .i64 x, .int .i64 y], .pointer (some ⟨L, 0, none⟩)] w (Adds w L gs [(x, y)] v) := by
  obtain ⟨i0, hi, hz0, hz1, hz2⟩ := info_parts infoGate
  have hL := hg.lt
  have hc : w.cell? ⟨L, 0, none⟩ = some v := cell_of_one hg.blk
  have hc2 : ∀ o : Obj, (w.alloc o).cell? ⟨L, 0, none⟩ = some v := fun o => (World.cell?_alloc_lt w o _ (by exact hL)).trans hc
  have HG := Lib.hid hg
  clear hg
  go_enter Try.func39, Try.ntmps39
  go_wp2_with (at_builtin; refine wpList_push _ rfl _ _ 29 rfl 33 i0 _ 2 16 Try.underlying29 hi hz0 hz1 hz2 rfl (by omega) v gs.length (flat gs) rfl (HG.out.own.alloc _) _ _ _ (by simp) rfl rfl ?c1 ?c2 ?c3 ?_)
  case c1 => exact ⟨rfl, rfl⟩
  case c2 => omega
  case c3 => unfold maxLen; omega
  intro g cap w1 hown hp
  have hb1 : w1.heap[L]? = some (.cells #[v] 29 (0, 0)) := by
    rw [hp.block (by simp; omega) HG.out.ne, Below.heap_alloc _ _ _ hL]; exact HG.out.blk
  have hc1 : w1.cell? ⟨L, 0, none⟩ = some v := cell_of_one hb1
  have hf1 : w1.frozen? ⟨L, 0, none⟩ = false := free_of_one hb1
  go_wp2
  go_end0
  refine ⟨rfl, _, ⟨one_setCell hb1, ?_, ?_⟩, ?_⟩
  · have h := ownsRow_setCell_other hown (a := ⟨L, 0, none⟩) (by
      intro e
      simp [Value.ownBlock] at e
      rcases hp.here with h | h
      · exact HG.out.ne (by rw [h, e])
      · simp at h; omega) (.slice (some ⟨g, 0, none⟩) (gs.length + 1) cap)
    simpa [flat_append, flat] using h
  · intro e
    simp [Value.ownBlock] at e
    rcases hp.here with h | h
    · exact HG.out.ne (by rw [h, e])
    · simp at h; omega
  · refine ⟨hp.grown.os, hp.grown.tape, hp.grown.output, ?_, fun k hk hkL hkv => ?_, fun k hk => ?_⟩
    · have := hp.size; simp [World.setCell] at this ⊢; omega
    · rw [Below.heap_setCell _ _ _ _ (by simpa using hkL), hp.block (by simp; omega) hkv, Below.heap_alloc _ _ _ hk]
    · have hk' : g = k := by simpa [Value.ownBlock] using hk
      subst hk'
      rcases hp.here with h | h
      · exact Or.inl h
      · right; simp at h; omega

/-- What the closure 'row' has captured: the function that takes each gate, and the wires. -/
structure Caught (w : World) (L : Nat) (v : Value) (yb wb : Nat) (a : Option Addr) (cap : Nat) (xs : List Int) : Prop where
  yc : w.cell? ⟨yb, 0, none⟩ = some (.func (.func 39) #[] #[.pointer (some ⟨L, 0, none⟩)])
  wc : w.cell? ⟨wb, 0, none⟩ = some (.slice a xs.length cap)
  ys : Safe w L v yb
  ws : Safe w L v wb
  sl : Sl w w.heap.size a (xs.map (Value.int .i64))
  ss : ∀ b o, a = some ⟨b, o, none⟩ → Safe w L v b

theorem Caught.step {w w' : World} {L : Nat} {v v' : Value} {yb wb : Nat} {a : Option Addr} {cap : Nat} {xs : List Int} (h : Caught w L v yb wb a cap xs) (hg : GStep w w' L v v') : Caught w' L v' yb wb a cap xs :=
  ⟨(hg.cell h.ys 0).trans h.yc, (hg.cell h.ws 0).trans h.wc, h.ys.step hg, h.ws.step hg, h.sl.gstep h.ss hg, fun b o e => (h.ss b o e).step hg⟩

theorem pairs_succ (k : Nat) (xs : List Int) : pairs (k + 1) xs = pairs k xs ++ [(xs.getD (2 * k) 0, xs.getD (2 * k + 1) 0)] := by
  simp [pairs, List.range_succ]

/-- Two neighbours among the wires. -/
theorem Caught.two {w : World} {L : Nat} {v : Value} {yb wb : Nat} {a : Option Addr} {cap : Nat} {xs : List Int} (h : Caught w L v yb wb a cap xs) (q : Nat) (hq : q + 1 < xs.length) :
    ∃ b o, a = some ⟨b, o, none⟩ ∧ b < w.heap.size ∧ w.cell? ⟨b, o + q, none⟩ = some (.int .i64 (xs.getD q 0)) ∧ w.cell? ⟨b, o + (q + 1), none⟩ = some (.int .i64 (xs.getD (q + 1) 0)) := by
  obtain ⟨b1, o1, rfl, hb1, hx1⟩ := h.sl.at q (by simp; omega)
  obtain ⟨b2, o2, e2, hb2, hx2⟩ := h.sl.at (q + 1) (by simp; omega)
  simp only [Option.some.injEq, Addr.mk.injEq, and_true] at e2
  obtain ⟨rfl, rfl⟩ := e2
  rw [List.getElem_map] at hx1 hx2
  refine ⟨b1, o1, rfl, hb1, ?_, ?_⟩
  · rw [hx1]; simp [List.getD, List.getElem?_eq_getElem (show q < xs.length by omega)]
  · rw [hx2]; simp [List.getD, List.getElem?_eq_getElem (show q + 1 < xs.length by omega)]

set_option maxHeartbeats 1000000 in
theorem row_any (most k : Nat) (L : Nat) (gs : List (Int × Int)) (v : Value) (yb wb : Nat) (a : Option Addr) (cap : Nat) (xs : List Int) (w : World) (hg : Gath w L gs v)
    (hc : Caught w L v yb wb a cap xs) (hk : most / 2 = k) (hm : most ≤ xs.length) (hn : xs.length ≤ 4096) (hgs : gs.length + k ≤ 1000000) :
    Calls Try.prog 47 #[.int .i64 most, .pointer (some ⟨yb, 0, none⟩), .pointer (some ⟨wb, 0, none⟩)] w (Adds w L gs (pairs k xs) v) := by
  have HG := Lib.hid hg
  have HC := Lib.hid hc
  have HK := Lib.hid hk
  clear hg hc hk
  go_enter Try.func47, Try.ntmps47
  go_wp2
  go_loopw [4] (fun i wr => ∃ j q : Nat, j ≤ k ∧ Hid (q = 2 * j) ∧ i = .int .i64 q ∧ Hid (∃ v', Gath wr L (gs ++ pairs j xs) v' ∧ GStep w wr L v v')) (fun i _ => 2 * k - (intOf i).toNat)
  case atStart => exact ⟨0, 0, Nat.zero_le _, rfl, rfl, v, by simpa [pairs] using HG.out, GStep.refl _ _ _⟩
  case round =>
    obtain ⟨j, q, hj, HQ, rfl, HV⟩ := hrel
    obtain ⟨v', hg', hs'⟩ := HV.out
    by_cases hjk : j < k
    · have hk2 := HK.out
      have hq := HQ.out
      have hc' := HC.out.step hs'
      have hlt : q + 1 < xs.length := by omega
      obtain ⟨b1, o1, rfl, hb1, hx1, hx2⟩ := hc'.two q hlt
      have hyc := hc'.yc
      have hwc := hc'.wc
      have hlt2 : (q : Int) + 1 < (most : Int) := by omega
      have hlt3 : (q : Int) + 1 < (xs.length : Int) := by omega
      have hp : pairs (j + 1) xs = pairs j xs ++ [(xs.getD q 0, xs.getD (q + 1) 0)] := by rw [pairs_succ, hq]
      have HP := Lib.hid hp
      have HGG := Lib.hid hg'
      have HSS := Lib.hid hs'
      have hq1 : q < xs.length := by omega
      clear hp hg' hs' HV hk2 hc' hq
      generalize xs.getD q 0 = x at *
      generalize xs.getD (q + 1) 0 = y at *
      go_wp2_with fail
      refine wp_region_tail 11 (by kernel_rfl) (by kernel_rfl) ?_
      simp only [List.take_succ_cons, List.take_zero, List.drop_succ_cons, List.drop_zero]
      repeat (go_big_quiet_step (fail))
      refine wpQuiet_nil ?_
      go_wp2_with fail
      refine (yield_any _ _ L (gs ++ pairs j xs) v' _ (HGG.out.below (Below.refl _ _).drew) (by simp [pairs]; omega)).mono ?_
      rintro e w2 ⟨rfl, HA⟩
      have HN : Hid (∃ v2, Gath w2 L (gs ++ pairs (j + 1) xs) v2 ∧ GStep w w2 L v v2) := by
        obtain ⟨v2, hg2, hs2⟩ := HA
        rw [List.append_assoc, ← HP.out] at hg2
        exact ⟨v2, hg2, (HSS.out.trans (GStep.of_below (Below.refl _ _).drew _ _)).trans hs2⟩
      clear HA
      go_wp2_with fail
      have hq := HQ.out
      go_roundw
      case rel => exact ⟨j + 1, q + 2, by omega, by show q + 2 = 2 * (j + 1); omega, by go_num, HN⟩
      case measure => simp [intOf]; omega
    · have hjn : j = k := by omega
      subst hjn
      have hq := HQ.out
      have hk2 := HK.out
      have hlt2 : (most : Int) ≤ (q : Int) + 1 := by omega
      have hqb : (q : Int) ≤ 4096 := by omega
      clear hq hk2
      go_wp2_with fail
      go_end0
      exact ⟨rfl, HV.out⟩

end Go.Proofs.Ytbjhcpchljjmhaa

/- newLoops: an order's record. No condition. -/
namespace Go.Proofs.Ytbjhcpchljjmhaa
open Go.RowKit

theorem LAt.sett {W : World} {lb ob oo oc wb sb n : Nat} {σ τ s : Nat → Nat} (h : LAt W lb ob oo oc wb sb n σ τ s) (hl : lb ≠ wb) (ho : ob ≠ wb) (a x : Nat) (ha : a < n) :
    LAt (W.setCell ⟨wb, a, none⟩ (.int .i64 (x : Int))) lb ob oo oc wb sb n σ (upd τ a x) s := by
  have far : ∀ (q : Addr), wb ≠ q.block → (W.setCell ⟨wb, a, none⟩ (.int .i64 (x : Int))).cell? q = W.cell? q := fun q hq => World.cell?_setCell_other _ _ _ _ (by intro e; exact hq (by rw [← e]))
  refine ⟨by rw [far _ (Ne.symm hl)]; exact h.l0, by rw [far _ (Ne.symm hl)]; exact h.l1, by rw [far _ (Ne.symm hl)]; exact h.l2, by rw [far _ (Ne.symm hl)]; exact h.l3,
    fun i hi => by rw [far _ (Ne.symm ho)]; exact h.o i hi, fun i hi => ?_, fun i hi => by rw [far _ h.nw]; exact h.s i hi, fun i => ?_, h.nl, h.no, h.nw, ?_⟩
  · unfold upd
    by_cases e : i = a
    · subst e
      rw [if_pos rfl]
      exact World.cell?_setCell_same _ _ _ (h.t i hi)
    · rw [if_neg e, World.cell?_setCell_other _ _ _ _ (by intro e2; injection e2 with _ e3; exact e e3.symm)]
      exact h.t i hi
  · have := h.f i
    simpa using this
  · simpa [World.setCell] using h.lt

theorem LAt.cong {W : World} {lb ob oo oc wb sb n : Nat} {σ τ τ' s : Nat → Nat} (h : LAt W lb ob oo oc wb sb n σ τ s) (he : ∀ i, i < n → τ i = τ' i) : LAt W lb ob oo oc wb sb n σ τ' s :=
  ⟨h.l0, h.l1, h.l2, h.l3, h.o, fun i hi => by rw [← he i hi]; exact h.t i hi, h.s, h.f, h.nl, h.no, h.nw, h.lt⟩

/-- What newLoops answers. -/
def NewL (n : Nat) (σ τ : Nat → Nat) (ob oo oc : Nat) (W : World) (e : Ending) (W' : World) : Prop :=
  ∃ lb wb sb, e = .returned (.pointer (some ⟨lb, 0, none⟩)) ∧ LAt W' lb ob oo oc wb sb n σ τ (fun _ => 0) ∧ Below W.heap.size W W' ∧ W.heap.size ≤ sb

theorem made_zero (n i : Nat) (h : i < n) : (madeCells #[Value.int .i64 0] n)[i]? = some (iV 0) := by
  simp [madeCells, h, Nat.mod_one, iV]

theorem newWorld (n : Nat) (σ : Nat → Nat) (ob oo oc : Nat) (W : World) (hob : ob < W.heap.size) (ho : ∀ i, i < n → W.cell? ⟨ob, oo + i, none⟩ = some (iV (σ i))) (wb sb : Nat)
    (h : (wb = W.heap.size ∧ sb = W.heap.size + 1) ∨ (wb = W.heap.size + 1 ∧ sb = W.heap.size)) :
    LAt (((W.alloc (.cells (madeCells #[Value.int .i64 0] n) 3)).alloc (.cells (madeCells #[Value.int .i64 0] n) 3)).alloc
        (.cells #[.slice (some ⟨ob, oo, none⟩) n oc, .slice (some ⟨wb, 0, none⟩) n n, .slice (some ⟨sb, 0, none⟩) n n, .int .i64 ((n : Int) / 2 * 2)] 77)) (W.heap.size + 1 + 1) ob oo oc wb sb n σ (fun _ => 0) (fun _ => 0)
    ∧ ∀ i, (((W.alloc (.cells (madeCells #[Value.int .i64 0] n) 3)).alloc (.cells (madeCells #[Value.int .i64 0] n) 3)).alloc
        (.cells #[.slice (some ⟨ob, oo, none⟩) n oc, .slice (some ⟨wb, 0, none⟩) n n, .slice (some ⟨sb, 0, none⟩) n n, .int .i64 ((n : Int) / 2 * 2)] 77)).frozen? ⟨wb, i, none⟩ = false := by
  have hmo : ((n : Int) / 2 * 2) = ((mo n : Nat) : Int) := by unfold mo; omega
  rw [hmo]
  obtain ⟨o1, ho1⟩ : ∃ o1, Obj.cells (madeCells #[Value.int .i64 0] n) 3 (0, 0) = o1 := ⟨_, rfl⟩
  obtain ⟨o3, ho3⟩ : ∃ o3, Obj.cells #[.slice (some ⟨ob, oo, none⟩) n oc, .slice (some ⟨wb, 0, none⟩) n n, .slice (some ⟨sb, 0, none⟩) n n, .int .i64 ((mo n : Nat) : Int)] 77 (0, 0) = o3 := ⟨_, rfl⟩
  rw [ho1, ho3]
  have b1 : (((W.alloc o1).alloc o1).alloc o3).heap[W.heap.size]? = some o1 := by
    rw [Below.heap_alloc _ _ _ (by simp; omega), Below.heap_alloc _ _ _ (by simp)]
    exact heap_alloc_new W o1
  have b2 : (((W.alloc o1).alloc o1).alloc o3).heap[W.heap.size + 1]? = some o1 := by
    rw [Below.heap_alloc _ _ _ (by simp)]
    have := heap_alloc_new (W.alloc o1) o1
    simpa using this
  have b3 : (((W.alloc o1).alloc o1).alloc o3).heap[W.heap.size + 1 + 1]? = some o3 := by
    have := heap_alloc_new ((W.alloc o1).alloc o1) o3
    simpa using this
  have hz : ∀ b, (((W.alloc o1).alloc o1).alloc o3).heap[b]? = some o1 → (∀ i, i < n → (((W.alloc o1).alloc o1).alloc o3).cell? ⟨b, i, none⟩ = some (iV 0)) ∧ ∀ i, (((W.alloc o1).alloc o1).alloc o3).frozen? ⟨b, i, none⟩ = false := fun b hb => by
    subst ho1
    refine ⟨fun i hi => ?_, fun i => ?_⟩
    · simp only [World.cell?, hb]
      exact made_zero n i hi
    · simp [World.frozen?, hb]
  have hwz := hz wb (by rcases h with ⟨h1, _⟩ | ⟨h1, _⟩ <;> rw [h1] <;> assumption)
  have hsz := hz sb (by rcases h with ⟨_, h1⟩ | ⟨_, h1⟩ <;> rw [h1] <;> assumption)
  rw [← ho3] at b3
  refine ⟨⟨?_, ?_, ?_, ?_, fun i hi => ?_, hwz.1, hsz.1, hsz.2, by omega, by omega, by omega, ?_⟩, hwz.2⟩
  · rw [← ho3]; simp only [World.cell?, b3]; rfl
  · rw [← ho3]; simp only [World.cell?, b3]; rfl
  · rw [← ho3]; simp only [World.cell?, b3]; rfl
  · rw [← ho3]; simp only [World.cell?, b3]; rfl
  · rw [World.cell?_alloc_lt _ _ _ (by simp; omega), World.cell?_alloc_lt _ _ _ (by simp; omega), World.cell?_alloc_lt _ _ _ (by exact hob)]
    exact ho i hi
  · simp
    omega


set_option maxRecDepth 100000 in
set_option maxHeartbeats 2000000 in
theorem newLoops_any (n : Nat) (σ τ : Nat → Nat) (ob oo oc : Nat) (hn256 : n ≤ 256) (hoo : Ord2 n σ τ) (W : World) (hob : ob < W.heap.size) (ho : ∀ i, i < n → W.cell? ⟨ob, oo + i, none⟩ = some (iV (σ i))) :
    Calls Try.prog 43 #[.slice (some ⟨ob, oo, none⟩) n oc] W (NewL n σ τ ob oo oc W) := by
  have HO := Lib.hid ho
  have HOO := Lib.hid hoo
  obtain ⟨i0, hi, hz0, hz1, hz2⟩ := info_parts infoInt
  have hmk : ∀ W9 : World, (Instr.makeSlice 25 (.int .i64 (n : Int)) (.int .i64 (n : Int))).run Try.prog W9 = .ok (.slice (some ⟨W9.heap.size, 0, none⟩) n n) (W9.alloc (.cells (madeCells #[.int .i64 0] n) 3)) := fun W9 => by
    have h := run_make (P := Try.prog) W9 25 3 i0 _ Try.underlying25 hi hz0 .i64 .i64 (n : Int) (n : Int) (by omega) (Int.le_refl _) (by rw [hz2]; omega) (by omega)
    rw [hz1, Int.toNat_natCast, Nat.mul_one] at h
    exact h
  clear ho hoo hi hz0 hz1 hz2
  go_enter Try.func43, Try.ntmps43
  go_wp2_with fail
  go_region
  · have h0 := newWorld n σ ob oo oc W hob HO.out W.heap.size (W.heap.size + 1) (Or.inl ⟨rfl, rfl⟩)
    have hbl : Below W.heap.size W (((W.alloc (.cells (madeCells #[Value.int .i64 0] n) 3)).alloc (.cells (madeCells #[Value.int .i64 0] n) 3)).alloc
        (.cells #[.slice (some ⟨ob, oo, none⟩) n oc, .slice (some ⟨W.heap.size, 0, none⟩) n n, .slice (some ⟨(W.heap.size + 1), 0, none⟩) n n, .int .i64 ((n : Int) / 2 * 2)] 77)) :=
      (((Below.refl _ _).alloc (Nat.le_refl _) _).alloc (by simp) _).alloc (by simp; omega) _
    obtain ⟨w0, hw0⟩ : ∃ w0, (((W.alloc (.cells (madeCells #[Value.int .i64 0] n) 3)).alloc (.cells (madeCells #[Value.int .i64 0] n) 3)).alloc
        (.cells #[.slice (some ⟨ob, oo, none⟩) n oc, .slice (some ⟨W.heap.size, 0, none⟩) n n, .slice (some ⟨(W.heap.size + 1), 0, none⟩) n n, .int .i64 ((n : Int) / 2 * 2)] 77)) = w0 := ⟨_, rfl⟩
    rw [hw0] at h0 hbl ⊢
    have HL := Lib.hid h0.1
    have HFZ := Lib.hid h0.2
    have HB := Lib.hid hbl
    obtain ⟨lb, hlb⟩ : ∃ lb, W.heap.size + 1 + 1 = lb := ⟨_, rfl⟩
    obtain ⟨wb, hwb⟩ : ∃ wb, W.heap.size = wb := ⟨_, rfl⟩
    obtain ⟨sb, hsb⟩ : ∃ sb, (W.heap.size + 1) = sb := ⟨_, rfl⟩
    have hfresh : W.heap.size ≤ sb ∧ W.heap.size ≤ wb ∧ lb ≠ wb ∧ ob ≠ wb := by omega
    rw [hlb, hsb, hwb] at HL
    try rw [hwb] at HFZ
    rw [hlb]
    have HFR := Lib.hid hfresh
    clear h0 hbl hw0 hlb hwb hsb hfresh hmk
    go_wp2_with fail
    go_loopw [21] (fun i wr => ∃ (j : Nat) (tw : Nat → Nat), j ≤ n ∧ i = .int .i64 (j : Int) ∧ Hid (LAt wr lb ob oo oc wb sb n σ tw (fun _ => 0)) ∧ Hid (∀ k, k < j → tw (σ k) = k) ∧ Hid (Below W.heap.size W wr) ∧ Hid (∀ i, wr.frozen? ⟨wb, i, none⟩ = false)) (fun i _ => n - (intOf i).toNat)
    case atStart => exact ⟨0, _, Nat.zero_le _, rfl, HL.out.drew, fun k hk => by omega, HB.out.drew, HFZ.out⟩
    case round =>
      clear HL HB HFZ
      obtain ⟨j, tw, hj, rfl, HL, HT, HB, HFZ⟩ := hrel
      by_cases hjl : j < n
      · have hk0 := HL.out.l0
        have hk1 := HL.out.l1
        have ho1 := HL.out.o j hjl
        have hsj := HOO.out.s j hjl
        obtain ⟨row, hrow⟩ : ∃ row, σ j = row := ⟨_, rfl⟩
        rw [hrow] at ho1 hsj
        have hw1 := HL.out.t row hsj
        have hf1 := HFZ.out row
        have HL2 := Lib.hid (HL.out.sett HFR.out.2.2.1 HFR.out.2.2.2 row j hsj)
        have HT2 : Hid (∀ k, k < j + 1 → upd tw row j (σ k) = k) := fun k hk => by
          unfold upd
          rcases Nat.lt_or_ge k j with h | h
          · rw [if_neg (fun e => by have := HOO.out.inj (by omega) hjl (by rw [e, hrow] : σ k = σ j); omega)]
            exact HT.out k h
          · have : k = j := by omega
            subst this
            rw [if_pos hrow]
        have HB2 : Hid (Below W.heap.size W (wr.setCell ⟨wb, row, none⟩ (.int .i64 (j : Int)))) := HB.out.setCell HFR.out.2.1 _
        have HFZ2 : Hid (∀ i, (wr.setCell ⟨wb, row, none⟩ (.int .i64 (j : Int))).frozen? ⟨wb, i, none⟩ = false) := fun i => by
          have := HFZ.out i
          simpa using this
        have HROW := Lib.hid hrow
        clear hrow
        unfold iV at ho1 hw1
        go_wp2_with fail
        go_roundw
        case rel => exact ⟨j + 1, _, by omega, by go_num, HL2.out, HT2.out, HB2.out, HFZ2.out⟩
        case measure => simp [intOf]; omega
      · have hjn : j = n := by omega
        subst hjn
        have HF : Hid (NewL j σ τ ob oo oc W (.returned (.pointer (some ⟨lb, 0, none⟩))) wr) :=
          ⟨lb, wb, sb, rfl, HL.out.cong (fun i hi => by have h9 := HT.out (τ i) (HOO.out.t i hi); rwa [HOO.out.st i hi] at h9), HB.out, HFR.out.1⟩
        go_wp2_with fail
        go_ret
        exact HF.out
  · have h0 := newWorld n σ ob oo oc W hob HO.out (W.heap.size + 1) W.heap.size (Or.inr ⟨rfl, rfl⟩)
    have hbl : Below W.heap.size W (((W.alloc (.cells (madeCells #[Value.int .i64 0] n) 3)).alloc (.cells (madeCells #[Value.int .i64 0] n) 3)).alloc
        (.cells #[.slice (some ⟨ob, oo, none⟩) n oc, .slice (some ⟨(W.heap.size + 1), 0, none⟩) n n, .slice (some ⟨W.heap.size, 0, none⟩) n n, .int .i64 ((n : Int) / 2 * 2)] 77)) :=
      (((Below.refl _ _).alloc (Nat.le_refl _) _).alloc (by simp) _).alloc (by simp; omega) _
    obtain ⟨w0, hw0⟩ : ∃ w0, (((W.alloc (.cells (madeCells #[Value.int .i64 0] n) 3)).alloc (.cells (madeCells #[Value.int .i64 0] n) 3)).alloc
        (.cells #[.slice (some ⟨ob, oo, none⟩) n oc, .slice (some ⟨(W.heap.size + 1), 0, none⟩) n n, .slice (some ⟨W.heap.size, 0, none⟩) n n, .int .i64 ((n : Int) / 2 * 2)] 77)) = w0 := ⟨_, rfl⟩
    rw [hw0] at h0 hbl ⊢
    have HL := Lib.hid h0.1
    have HFZ := Lib.hid h0.2
    have HB := Lib.hid hbl
    obtain ⟨lb, hlb⟩ : ∃ lb, W.heap.size + 1 + 1 = lb := ⟨_, rfl⟩
    obtain ⟨wb, hwb⟩ : ∃ wb, (W.heap.size + 1) = wb := ⟨_, rfl⟩
    obtain ⟨sb, hsb⟩ : ∃ sb, W.heap.size = sb := ⟨_, rfl⟩
    have hfresh : W.heap.size ≤ sb ∧ W.heap.size ≤ wb ∧ lb ≠ wb ∧ ob ≠ wb := by omega
    rw [hlb, hwb, hsb] at HL
    try rw [hwb] at HFZ
    rw [hlb]
    have HFR := Lib.hid hfresh
    clear h0 hbl hw0 hlb hwb hsb hfresh hmk
    go_wp2_with fail
    go_loopw [21] (fun i wr => ∃ (j : Nat) (tw : Nat → Nat), j ≤ n ∧ i = .int .i64 (j : Int) ∧ Hid (LAt wr lb ob oo oc wb sb n σ tw (fun _ => 0)) ∧ Hid (∀ k, k < j → tw (σ k) = k) ∧ Hid (Below W.heap.size W wr) ∧ Hid (∀ i, wr.frozen? ⟨wb, i, none⟩ = false)) (fun i _ => n - (intOf i).toNat)
    case atStart => exact ⟨0, _, Nat.zero_le _, rfl, HL.out.drew, fun k hk => by omega, HB.out.drew, HFZ.out⟩
    case round =>
      clear HL HB HFZ
      obtain ⟨j, tw, hj, rfl, HL, HT, HB, HFZ⟩ := hrel
      by_cases hjl : j < n
      · have hk0 := HL.out.l0
        have hk1 := HL.out.l1
        have ho1 := HL.out.o j hjl
        have hsj := HOO.out.s j hjl
        obtain ⟨row, hrow⟩ : ∃ row, σ j = row := ⟨_, rfl⟩
        rw [hrow] at ho1 hsj
        have hw1 := HL.out.t row hsj
        have hf1 := HFZ.out row
        have HL2 := Lib.hid (HL.out.sett HFR.out.2.2.1 HFR.out.2.2.2 row j hsj)
        have HT2 : Hid (∀ k, k < j + 1 → upd tw row j (σ k) = k) := fun k hk => by
          unfold upd
          rcases Nat.lt_or_ge k j with h | h
          · rw [if_neg (fun e => by have := HOO.out.inj (by omega) hjl (by rw [e, hrow] : σ k = σ j); omega)]
            exact HT.out k h
          · have : k = j := by omega
            subst this
            rw [if_pos hrow]
        have HB2 : Hid (Below W.heap.size W (wr.setCell ⟨wb, row, none⟩ (.int .i64 (j : Int)))) := HB.out.setCell HFR.out.2.1 _
        have HFZ2 : Hid (∀ i, (wr.setCell ⟨wb, row, none⟩ (.int .i64 (j : Int))).frozen? ⟨wb, i, none⟩ = false) := fun i => by
          have := HFZ.out i
          simpa using this
        have HROW := Lib.hid hrow
        clear hrow
        unfold iV at ho1 hw1
        go_wp2_with fail
        go_roundw
        case rel => exact ⟨j + 1, _, by omega, by go_num, HL2.out, HT2.out, HB2.out, HFZ2.out⟩
        case measure => simp [intOf]; omega
      · have hjn : j = n := by omega
        subst hjn
        have HF : Hid (NewL j σ τ ob oo oc W (.returned (.pointer (some ⟨lb, 0, none⟩))) wr) :=
          ⟨lb, wb, sb, rfl, HL.out.cong (fun i hi => by have h9 := HT.out (τ i) (HOO.out.t i hi); rwa [HOO.out.st i hi] at h9), HB.out, HFR.out.1⟩
        go_wp2_with fail
        go_ret
        exact HF.out

end Go.Proofs.Ytbjhcpchljjmhaa

/- The program's network of a mix: halves, gates, wires, plan. Condition: lists of at most 4,096 wires. -/
namespace Go.Proofs.Ytbjhcpchljjmhaa
open Go.RowKit

/-- A list of integers that the call has made: its value, and that it lies in new memory. -/
structure Made (w w' : World) (v : Value) (xs : List Int) : Prop where
  own : w'.ownsRow 0 3 1 v xs.length (xs.map (Value.int .i64))
  new_ : ∀ q, v.ownBlock = some q → w.heap.size ≤ q

def HalvesPost (w : World) (xs : List Int) (e : Ending) (w' : World) : Prop :=
  ∃ u l, e = .returned (.tuple #[u, l]) ∧ Made w w' u (upper xs) ∧ Made w w' l (lower xs) ∧ Below w.heap.size w w'

theorem upTo_succ (n : Nat) (xs : List Int) (j : Nat) : upTo n xs (j + 1) = upTo n xs j ++ if isUp n j then [xs.getD j 0] else [] := rfl
theorem lowTo_succ (n : Nat) (xs : List Int) (j : Nat) : lowTo n xs (j + 1) = lowTo n xs j ++ if isUp n j then [] else [xs.getD j 0] := rfl

/-- One of the two lists gets one more; the other is as it was. -/
theorem halves_up {w wr w1 : World} {u l : Value} {U V : List Int} {x : Int} {g gc : Nat} (_hu : wr.ownsRow 0 3 1 u U.length (U.map (Value.int .i64))) (hl : wr.ownsRow 0 3 1 l V.length (V.map (Value.int .i64)))
    (ha : Apart u l) (hn : (∀ q, u.ownBlock = some q → w.heap.size ≤ q) ∧ (∀ q, l.ownBlock = some q → w.heap.size ≤ q)) (hb : Below w.heap.size w wr)
    (hown : w1.ownsRow 0 3 1 (.slice (some ⟨g, 0, none⟩) (U.length + 1) gc) (U.length + 1) (U.map (Value.int .i64) ++ [.int .i64 x])) (hp : Pushed wr w1 u g) :
    w1.ownsRow 0 3 1 (.slice (some ⟨g, 0, none⟩) (U.length + 1) gc) (U ++ [x]).length ((U ++ [x]).map (Value.int .i64)) ∧ w1.ownsRow 0 3 1 l V.length (V.map (Value.int .i64)) ∧
      Apart (.slice (some ⟨g, 0, none⟩) (U.length + 1) gc) l ∧
      (∀ q, (Value.slice (some ⟨g, 0, none⟩) (U.length + 1) gc).ownBlock = some q → w.heap.size ≤ q) ∧ (∀ q, l.ownBlock = some q → w.heap.size ≤ q) ∧ Below w.heap.size w w1 :=
  ⟨by simpa using hown, hp.keep hl ha, hp.apart hl ha, hp.from_ hb.size hn.1, hn.2, hp.below hb hb.size hn.1⟩

set_option maxHeartbeats 2000000 in
theorem halves_any (a : Option Addr) (cap : Nat) (xs : List Int) (w : World) (hs : Sl w w.heap.size a (xs.map (Value.int .i64))) (hn : xs.length ≤ 4096) :
    Calls Try.prog 48 #[.slice a xs.length cap] w (HalvesPost w xs) := by
  obtain ⟨i0, hi, hz0, hz1, hz2⟩ := info_parts infoInt
  have HS := Lib.hid hs
  clear hs
  go_enter Try.func48, Try.ntmps48
  go_wp2
  go_loopw [2, 3, 12] (fun u l i wr => ∃ j : Nat, j ≤ xs.length ∧ i = .int .i64 j ∧
      wr.ownsRow 0 3 1 u (upTo xs.length xs j).length ((upTo xs.length xs j).map (Value.int .i64)) ∧ wr.ownsRow 0 3 1 l (lowTo xs.length xs j).length ((lowTo xs.length xs j).map (Value.int .i64)) ∧
      Apart u l ∧ Hid ((∀ q, u.ownBlock = some q → w.heap.size ≤ q) ∧ (∀ q, l.ownBlock = some q → w.heap.size ≤ q)) ∧ Below w.heap.size w wr) (fun _ _ i _ => xs.length - (intOf i).toNat)
  case atStart => exact ⟨0, Nat.zero_le _, rfl, World.ownsRow_nil _ _ _ _, World.ownsRow_nil _ _ _ _, Apart.nil_left _, ⟨fun q h => by simp [Value.ownBlock] at h, fun q h => by simp [Value.ownBlock] at h⟩, Below.refl _ _⟩
  case round =>
    obtain ⟨j, hj, rfl, hu, hl, hap, HN, hbl⟩ := hrel
    by_cases hjl : j < xs.length
    · obtain ⟨bb, off, rfl, hbb, hcell⟩ := (HS.out.below hbl).at j (by simpa using hjl)
      have hsz := hbl.size
      have hbr : bb < wr.heap.size := by omega
      have hx : xs.getD j 0 = xs[j] := by simp [List.getD, hjl]
      rw [List.getElem_map, ← hx] at hcell
      have hb2 := both_length xs.length xs j
      have HAP : Hid (Apart _ _) := hap
      have HU := Lib.hid hu
      have HL := Lib.hid hl
      have hu1 := upTo_succ xs.length xs j
      have hl1 := lowTo_succ xs.length xs j
      clear hx hap hu hl
      generalize xs.getD j 0 = x at *
      generalize upTo xs.length xs j = U at *
      generalize lowTo xs.length xs j = V at *
      have HU1 := Lib.hid hu1
      have HL1 := Lib.hid hl1
      clear hu1 hl1
      have hlen : U.length ≤ 4096 ∧ V.length ≤ 4096 := by omega
      obtain ⟨hlU, hlV⟩ := hlen
      have HB2 := Lib.hid hb2
      clear hb2
      by_cases hev : j % 2 = 0
      · have h1 : ((j : Int) % 2 == 0) = true := by simp; omega
        have HEV := Lib.hid hev
        clear hev
        by_cases hlt : j < 2 * (xs.length / 2)
        · have h2 : (j : Int) < 2 * ((xs.length : Int) / 2) := by omega
          go_wp2_with (at_builtin; (refine wpList_push wr rfl _ _ 25 rfl 3 i0 _ 1 8 Try.underlying25 hi hz0 hz1 hz2 rfl (by omega) u2 U.length (U.map (Value.int .i64)) rfl HU.out _ _ _ rfl rfl rfl (by simp [Value.oneCell']) (by omega) (by unfold maxLen; omega) ?_))
          intro g gc w1 hown hp
          have R := halves_up HU.out HL.out HAP.out HN.out hbl hown hp
          clear hown hp
          go_wp2
          have e1 : isUp xs.length j = true := by have := HEV.out; simp [isUp]; omega
          go_roundw
          case rel => exact ⟨j + 1, by omega, by go_num, by rw [HU1.out, if_pos e1]; exact R.1, by rw [HL1.out, if_pos e1, List.append_nil]; exact R.2.1, R.2.2.1, ⟨R.2.2.2.1, R.2.2.2.2.1⟩, R.2.2.2.2.2⟩
          case measure => simp [intOf]; omega
        · have h2 : 2 * ((xs.length : Int) / 2) ≤ (j : Int) := by omega
          go_wp2_with (at_builtin; (refine wpList_push wr rfl _ _ 25 rfl 3 i0 _ 1 8 Try.underlying25 hi hz0 hz1 hz2 rfl (by omega) u3 V.length (V.map (Value.int .i64)) rfl HL.out _ _ _ rfl rfl rfl (by simp [Value.oneCell']) (by omega) (by unfold maxLen; omega) ?_))
          intro g gc w1 hown hp
          have R := halves_up HL.out HU.out HAP.out.symm HN.out.symm hbl hown hp
          clear hown hp
          go_wp2
          have e1 : isUp xs.length j = false := by have := HEV.out; simp [isUp]; omega
          go_roundw
          case rel => exact ⟨j + 1, by omega, by go_num, by rw [HU1.out, e1]; simpa using R.2.1, by rw [HL1.out, e1]; exact R.1, R.2.2.1.symm, ⟨R.2.2.2.2.1, R.2.2.2.1⟩, R.2.2.2.2.2⟩
          case measure => simp [intOf]; omega
      · have h1 : ((j : Int) % 2 == 0) = false := by simp; omega
        have HEV := Lib.hid hev
        clear hev
        go_wp2_with (at_builtin; (refine wpList_push wr rfl _ _ 25 rfl 3 i0 _ 1 8 Try.underlying25 hi hz0 hz1 hz2 rfl (by omega) u3 V.length (V.map (Value.int .i64)) rfl HL.out _ _ _ rfl rfl rfl (by simp [Value.oneCell']) (by omega) (by unfold maxLen; omega) ?_))
        intro g gc w1 hown hp
        have R := halves_up HL.out HU.out HAP.out.symm HN.out.symm hbl hown hp
        clear hown hp
        go_wp2
        have e1 : isUp xs.length j = false := by have := HEV.out; simp [isUp]; omega
        go_roundw
        case rel => exact ⟨j + 1, by omega, by go_num, by rw [HU1.out, e1]; simpa using R.2.1, by rw [HL1.out, e1]; exact R.1, R.2.2.1.symm, ⟨R.2.2.2.2.1, R.2.2.2.1⟩, R.2.2.2.2.2⟩
        case measure => simp [intOf]; omega
    · have hjn : j = xs.length := by omega
      subst hjn
      have HU := Lib.hid hu
      have HL := Lib.hid hl
      clear hu hl hap
      go_wp2
      go_ret2
      exact ⟨_, _, rfl, ⟨HU.out, HN.out.1⟩, ⟨HL.out, HN.out.2⟩, hbl⟩

theorem own_form {w : World} {base e k n : Nat} {v : Value} {xs : List Value} (h : w.ownsRow base e k v n xs) : ∃ a c, v = .slice a n c ∧ (n = 0 ∨ ∃ g, a = some ⟨g, 0, none⟩ ∧ g < w.heap.size) := by
  rcases h.2 with ⟨hv, h0⟩ | ⟨g, cap, cur, hv, _, hg, _⟩
  · subst h0; exact ⟨none, 0, hv, Or.inl rfl⟩
  · exact ⟨_, cap, hv, Or.inr ⟨g, rfl, (Array.getElem?_eq_some_iff.1 hg).1⟩⟩

theorem Sl.of_own {w : World} {base e n : Nat} {a : Option Addr} {c : Nat} {xs : List Value} (h : w.ownsRow base e 1 (.slice a n c) n xs) : Sl w w.heap.size a xs := by
  rcases h.2 with ⟨hv, h0⟩ | ⟨g, cap, cur, hv, hb, hg, hr⟩
  · have := h.1; subst h0; left; exact List.length_eq_zero_iff.1 (by simpa using this)
  · simp only [Value.slice.injEq] at hv
    obtain ⟨rfl, _, rfl⟩ := hv
    refine Or.inr ⟨g, 0, rfl, (Array.getElem?_eq_some_iff.1 hg).1, fun i u hu => ?_⟩
    have hi : i < n * 1 := by have := (List.getElem?_eq_some_iff.1 hu).1; rw [h.1] at this; exact this
    rw [Nat.zero_add, h.cellAt i hi]; exact hu

/-- What has just been made lies where no append to the list goes. -/
theorem Made.safe {w w' : World} {L : Nat} {gs : List (Int × Int)} {v : Value} {a : Option Addr} {n c : Nat} {xs : List Int} (hm : Made w w' (.slice a n c) xs) (hg : Gath w L gs v) :
    ∀ b o, a = some ⟨b, o, none⟩ → Safe w' L v b := by
  intro b o e
  subst e
  have h1 := hm.new_ b (by simp [Value.ownBlock])
  have h2 := (hm.own.lt b (by simp [Value.ownBlock])).2
  have h3 := hg.lt
  exact ⟨h2, by omega, fun e => by have := (hg.own.lt _ e).2; omega⟩

theorem boxed (w : World) (o o' : Obj) : Below w.heap.size w ((w.alloc o).alloc o') := ((Below.refl _ _).alloc (Nat.le_refl _) _).alloc (by simp) _

set_option maxHeartbeats 400000 in
theorem gates_few (xs : List Int) (hn : xs.length < 2) (a : Option Addr) (cap L : Nat) (gs : List (Int × Int)) (v : Value) (w : World) (hg : Gath w L gs v) :
    Calls Try.prog 38 #[.slice a xs.length cap, .func (.func 39) #[] #[.pointer (some ⟨L, 0, none⟩)]] w (Adds w L gs (gatesL xs) v) := by
  have hG := gatesL_few xs hn
  have HG := Lib.hid hg
  have HGL := Lib.hid hG
  have hb := fun o o' => boxed w o o'
  have HB := Lib.hid hb
  clear hg hG hb
  have fin : ∀ o o', Adds w L gs (gatesL xs) v (.returned (.tuple #[])) ((w.alloc o).alloc o') := fun o o' =>
    ⟨rfl, v, by rw [HGL.out, List.append_nil]; exact HG.out.below (HB.out o o'), GStep.of_below (HB.out o o') _ _⟩
  by_cases h0 : xs.length = 0
  · have h1 : ((xs.length : Int) == 0) = true := by simp [h0]
    have H0 := Lib.hid h0
    clear h0
    go_enter Try.func38, Try.ntmps38
    go_wp2
    exact bodyPost_ret (results_none rfl _ _ _) rfl (fin _ _)
  · have h1 : ((xs.length : Int) == 0) = false := by simp; intro e; exact h0 (by simp [e])
    have h2 : ((xs.length : Int) == 1) = true := by simp; omega
    have H0 := Lib.hid h0
    clear h0
    go_enter Try.func38, Try.ntmps38
    go_wp2
    exact bodyPost_ret (results_none rfl _ _ _) rfl (fin _ _)

/-- The two boxes at the head of 'gates': what the closure catches. -/
theorem caught_boxed {w : World} {L : Nat} {gs : List (Int × Int)} {v : Value} {a : Option Addr} {cap : Nat} {xs : List Int} (hg : Gath w L gs v) (hs : Sl w w.heap.size a (xs.map (Value.int .i64)))
    (hsafe : ∀ b o, a = some ⟨b, o, none⟩ → Safe w L v b) :
    Caught ((w.alloc (.cells #[.slice a xs.length cap] 25)).alloc (.cells #[.func (.func 39) #[] #[.pointer (some ⟨L, 0, none⟩)]] 69)) L v (w.heap.size + 1) w.heap.size a cap xs := by
  have hL := hg.lt
  have hv := fun q h => (hg.own.lt q h).2
  refine ⟨?_, ?_, ⟨by simp, by omega, fun e => by have := hv _ e; omega⟩, ⟨by simp; omega, by omega, fun e => by have := hv _ e; omega⟩, hs.up (boxed w _ _), fun b o e => ?_⟩
  · rw [World.cell?_alloc_at _ _ _ _ (by simp)]; rfl
  · rw [World.cell?_alloc_lt _ _ _ (by simp), World.cell?_alloc_at _ _ _ _ rfl]; rfl
  · exact (hsafe b o e).step (GStep.of_below (boxed w _ _) _ _)

set_option maxHeartbeats 1000000 in
theorem gates_two (xs : List Int) (hn : xs.length = 2) (a : Option Addr) (cap L : Nat) (gs : List (Int × Int)) (v : Value) (w : World) (hg : Gath w L gs v) (hs : Sl w w.heap.size a (xs.map (Value.int .i64)))
    (hsafe : ∀ b o, a = some ⟨b, o, none⟩ → Safe w L v b) (hlen : gs.length + 1 ≤ 1000000) :
    Calls Try.prog 38 #[.slice a xs.length cap, .func (.func 39) #[] #[.pointer (some ⟨L, 0, none⟩)]] w (Adds w L gs (gatesL xs) v) := by
  have hG := gatesL_two xs hn
  have hc := caught_boxed (cap := cap) hg hs hsafe
  have hg2 := hg.below (boxed w (.cells #[.slice a xs.length cap] 25) (.cells #[.func (.func 39) #[] #[.pointer (some ⟨L, 0, none⟩)]] 69))
  have hst := GStep.of_below (boxed w (.cells #[.slice a xs.length cap] 25) (.cells #[.func (.func 39) #[] #[.pointer (some ⟨L, 0, none⟩)]] 69)) L v
  obtain ⟨b1, o1, rfl, hb1, hx1, hx2⟩ := hc.two 0 (by omega)
  have hyc := hc.yc
  have hwc := hc.wc
  have h1 : ((xs.length : Int) == 0) = false := by simp; intro e; simp [e] at hn
  have h2 : ((xs.length : Int) == 1) = false := by simp; omega
  have h3 : ((xs.length : Int) == 2) = true := by simp; omega
  have h4 : (0 : Int) < (xs.length : Int) := by omega
  have h5 : (1 : Int) < (xs.length : Int) := by omega
  have h6 : 0 < xs.length := by omega
  have h7 : 1 < xs.length := by omega
  have HN := Lib.hid hn
  have HGL := Lib.hid hG
  have HG2 := Lib.hid hg2
  have HST := Lib.hid hst
  have HC := Lib.hid hc
  clear hg hs hsafe hn hG hg2 hst hc
  simp only [Nat.zero_add, Nat.add_zero] at hx1 hx2
  generalize xs.getD 0 0 = x at *
  generalize xs.getD 1 0 = y at *
  generalize hW : (w.alloc (.cells #[.slice (some ⟨b1, o1, none⟩) xs.length cap] 25)).alloc (.cells #[.func (.func 39) #[] #[.pointer (some ⟨L, 0, none⟩)]] 69) = w2 at *
  have HW := Lib.hid hW
  clear hW
  go_enter Try.func38, Try.ntmps38
  go_wp2_with fail
  rw [HW.out]
  refine wp_region_tail 8 (by kernel_rfl) (by kernel_rfl) ?_
  simp only [List.take_succ_cons, List.take_zero, List.drop_succ_cons, List.drop_zero]
  repeat (go_big_quiet_step (fail))
  refine wpQuiet_nil ?_
  go_wp2_with fail
  refine (yield_any _ _ L gs v _ (HG2.out.below (Below.refl _ _).drew) hlen).mono ?_
  rintro e w3 ⟨rfl, HA⟩
  have fin : Adds w L gs (gatesL xs) v (.returned (.tuple #[])) w3 := by
    obtain ⟨v2, hg3, hs3⟩ := HA
    exact ⟨rfl, v2, by rw [HGL.out]; exact hg3, (HST.out.trans (GStep.of_below (Below.refl _ _).drew _ _)).trans hs3⟩
  clear HA
  go_wp2_with fail
  exact bodyPost_ret (results_none rfl _ _ _) rfl fin

set_option maxHeartbeats 2000000 in
theorem gates_any : ∀ (N : Nat) (xs : List Int), xs.length ≤ N → ∀ (a : Option Addr) (cap L : Nat) (gs : List (Int × Int)) (v : Value) (w : World), Gath w L gs v → Sl w w.heap.size a (xs.map (Value.int .i64)) →
    (∀ b o, a = some ⟨b, o, none⟩ → Safe w L v b) → xs.length ≤ 4096 → gs.length + (gatesL xs).length ≤ 1000000 →
    Calls Try.prog 38 #[.slice a xs.length cap, .func (.func 39) #[] #[.pointer (some ⟨L, 0, none⟩)]] w (Adds w L gs (gatesL xs) v) := by
  intro N
  induction N with
  | zero => intro xs hN a cap L gs v w hg _ _ _ _; exact gates_few xs (by omega) a cap L gs v w hg
  | succ N ih =>
    intro xs hN a cap L gs v w hg hs hsafe hn hlen
    rcases Nat.lt_or_ge xs.length 2 with hlt | hge
    · exact gates_few xs hlt a cap L gs v w hg
    · by_cases he : xs.length = 2
      · exact gates_two xs he a cap L gs v w hg hs hsafe (by rw [gatesL_two xs he] at hlen; exact hlen)
      · have hgt : 2 < xs.length := by omega
        have hG := gatesL_more xs hgt
        have hul := upper_length xs
        have hll := lower_length xs
        have hlen2 : gs.length + (xs.length / 2 + (gatesL (upper xs)).length + (gatesL (lower xs)).length + lastRow xs.length) ≤ 1000000 := by
          rw [hG] at hlen
          simp only [List.length_append, pairs, List.length_map, List.length_range] at hlen
          omega
        have hc := caught_boxed (cap := cap) hg hs hsafe
        have hg2 := hg.below (boxed w (.cells #[.slice a xs.length cap] 25) (.cells #[.func (.func 39) #[] #[.pointer (some ⟨L, 0, none⟩)]] 69))
        have hst := GStep.of_below (boxed w (.cells #[.slice a xs.length cap] 25) (.cells #[.func (.func 39) #[] #[.pointer (some ⟨L, 0, none⟩)]] 69)) L v
        have hyc := hc.yc
        have hwc := hc.wc
        have h1 : ((xs.length : Int) == 0) = false := by simp; intro e; simp [e] at hgt
        have h2 : ((xs.length : Int) == 1) = false := by simp; omega
        have h3 : ((xs.length : Int) == 2) = false := by simp; omega
        have HIH := Lib.hid ih
        have HGL := Lib.hid hG
        have HG2 := Lib.hid hg2
        have HST := Lib.hid hst
        have HC := Lib.hid hc
        have HUL := Lib.hid hul
        have HLL := Lib.hid hll
        clear ih hg hs hsafe hG hg2 hst hc hul hll he hlen
        generalize hW : (w.alloc (.cells #[.slice a xs.length cap] 25)).alloc (.cells #[.func (.func 39) #[] #[.pointer (some ⟨L, 0, none⟩)]] 69) = w2 at *
        have HW := Lib.hid hW
        clear hW
        go_enter Try.func38, Try.ntmps38
        go_wp2_with fail
        rw [HW.out]
        refine (row_any xs.length (xs.length / 2) L gs v (w.heap.size + 1) w.heap.size a cap xs w2 HG2.out HC.out rfl (Nat.le_refl _) hn (by omega)).mono ?_
        rintro e w3 ⟨rfl, HA⟩
        obtain ⟨v3, hg3, hs3⟩ := HA
        have HG3 := Lib.hid hg3
        have HS3 := Lib.hid (HST.out.trans hs3)
        have HC3 := Lib.hid (HC.out.step hs3)
        clear hg3 hs3 hyc hwc
        have hyc := HC3.out.yc
        have hwc := HC3.out.wc
        go_wp2_with fail
        refine (halves_any a cap xs w3 HC3.out.sl hn).mono ?_
        rintro e w4 ⟨u, l, rfl, hmu, hml, hb4⟩
        obtain ⟨au, cu, rfl, _⟩ := own_form hmu.own
        obtain ⟨al, cl, rfl, _⟩ := own_form hml.own
        have HMU := Lib.hid hmu
        have HML := Lib.hid hml
        have HG4 := Lib.hid (HG3.out.below hb4)
        have HS4 := Lib.hid (HS3.out.trans (GStep.of_below hb4 _ _))
        have HC4 := Lib.hid (HC3.out.step (GStep.of_below hb4 L v3))
        clear hmu hml hb4 hyc hwc
        have hyc := HC4.out.yc
        go_wp2_with fail
        refine (HIH.out (upper xs) (by have := HUL.out; omega) au cu L _ v3 w4 HG4.out (Sl.of_own HMU.out.own) (HMU.out.safe HG3.out) (by have := HUL.out; omega) (by simp only [List.length_append, pairs, List.length_map, List.length_range]; omega)).mono ?_
        rintro e w5 ⟨rfl, HA⟩
        obtain ⟨v5, hg5, hs5⟩ := HA
        have HG5 := Lib.hid hg5
        have HS5 := Lib.hid (HS4.out.trans hs5)
        have HC5 := Lib.hid (HC4.out.step hs5)
        have HSL := Lib.hid ((Sl.of_own HML.out.own).gstep (HML.out.safe HG3.out) hs5)
        have HSF : Hid (∀ b o, al = some ⟨b, o, none⟩ → Safe w5 L v5 b) := fun b o e => (HML.out.safe HG3.out b o e).step hs5
        clear hg5 hs5 hyc
        have hyc := HC5.out.yc
        go_wp2_with fail
        refine (HIH.out (lower xs) (by have := HLL.out; omega) al cl L _ v5 w5 HG5.out HSL.out HSF.out (by have := HLL.out; omega) (by simp only [List.length_append, pairs, List.length_map, List.length_range]; omega)).mono ?_
        rintro e w6 ⟨rfl, HA⟩
        obtain ⟨v6, hg6, hs6⟩ := HA
        have HG6 := Lib.hid hg6
        have HS6 := Lib.hid (HS5.out.trans hs6)
        have HC6 := Lib.hid (HC5.out.step hs6)
        clear hg6 hs6 hyc
        go_wp2_with fail
        obtain ⟨m, hm⟩ : ∃ m : Nat, m = xs.length - 1 + xs.length % 2 := ⟨_, rfl⟩
        rw [show ((xs.length : Int) - 1 + (xs.length : Int) % 2) = (m : Int) by omega]
        refine (row_any m (lastRow xs.length) L _ v6 (w.heap.size + 1) w.heap.size a cap xs w6 HG6.out HC6.out (by rw [hm]; rfl) (by omega) hn (by simp only [List.length_append, pairs, List.length_map, List.length_range]; omega)).mono ?_
        rintro e w7 ⟨rfl, HA⟩
        obtain ⟨v7, hg7, hs7⟩ := HA
        have fin : Adds w L gs (gatesL xs) v (.returned (.tuple #[])) w7 := by
          refine ⟨rfl, v7, ?_, HS6.out.trans hs7⟩
          rw [HGL.out]
          simpa [List.append_assoc] using hg7
        clear hg7 hs7 hm
        go_wp2_with fail
        go_end0
        exact fin

end Go.Proofs.Ytbjhcpchljjmhaa

/- The orders of the inner networks, as the program tells them: (*loops).inner. No condition. -/
namespace Go.Proofs.Ytbjhcpchljjmhaa
open Go.RowKit

def ordV (k : Nat) (f : Nat → Nat) : List Value := (List.range k).map fun i => iV (f i)
theorem ordV_length (k : Nat) (f : Nat → Nat) : (ordV k f).length = k := by simp [ordV]
theorem ordV_succ (k : Nat) (f : Nat → Nat) : ordV (k + 1) f = ordV k f ++ [iV (f k)] := by simp [ordV, List.range_succ]

/-- A slice of the call's own that holds an order. -/
structure MadeO (w w' : World) (v : Value) (k : Nat) (f : Nat → Nat) : Prop where
  own : w'.ownsRow 0 3 1 v k (ordV k f)
  new_ : ∀ q, v.ownBlock = some q → w.heap.size ≤ q

def InnerPost (n : Nat) (σ s : Nat → Nat) (W : World) (e : Ending) (W' : World) : Prop :=
  ∃ u l, e = .returned (.tuple #[u, l]) ∧ MadeO W W' u (n / 2) (upO σ s) ∧ MadeO W W' l (n - n / 2) (loO n σ s) ∧ Below W.heap.size W W'

/-- Two lists of the call's own. -/
structure TwoL (W w : World) (u l : Value) (j k : Nat) (f g : Nat → Nat) : Prop where
  pu : w.ownsRow 0 3 1 u j (ordV j f)
  pl : w.ownsRow 0 3 1 l k (ordV k g)
  ap : Apart u l
  nu : ∀ q, u.ownBlock = some q → W.heap.size ≤ q
  nl : ∀ q, l.ownBlock = some q → W.heap.size ≤ q
  b : Below W.heap.size W w

theorem TwoL.up {W w w1 : World} {u l : Value} {j k : Nat} {f g : Nat → Nat} (h : TwoL W w u l j k f g) {b c : Nat}
    (hown : w1.ownsRow 0 3 1 (.slice (some ⟨b, 0, none⟩) (j + 1) c) (j + 1) (ordV j f ++ [iV (f j)])) (hp : Pushed w w1 u b) : TwoL W w1 (.slice (some ⟨b, 0, none⟩) (j + 1) c) l (j + 1) k f g :=
  ⟨by rw [ordV_succ]; exact hown, hp.keep h.pl h.ap, hp.apart h.pl h.ap, hp.from_ h.b.size h.nu, h.nl, hp.below h.b h.b.size h.nu⟩

theorem TwoL.low {W w w1 : World} {u l : Value} {j k : Nat} {f g : Nat → Nat} (h : TwoL W w u l j k f g) {b c : Nat}
    (hown : w1.ownsRow 0 3 1 (.slice (some ⟨b, 0, none⟩) (k + 1) c) (k + 1) (ordV k g ++ [iV (g k)])) (hp : Pushed w w1 l b) : TwoL W w1 u (.slice (some ⟨b, 0, none⟩) (k + 1) c) j (k + 1) f g :=
  ⟨hp.keep h.pu h.ap.symm, by rw [ordV_succ]; exact hown, (hp.apart h.pu h.ap.symm).symm, h.nu, hp.from_ h.b.size h.nl, hp.below h.b h.b.size h.nl⟩

theorem TwoL.drewN {W w : World} {u l : Value} {j k : Nat} {f g : Nat → Nat} (h : TwoL W w u l j k f g) (m : Nat) : TwoL W (w.drewN m) u l j k f g :=
  ⟨h.pu, h.pl, h.ap, h.nu, h.nl, below_drewN h.b m⟩

theorem LAt.up {W W' : World} {lb ob oo oc wb sb n : Nat} {σ τ s : Nat → Nat} (h : LAt W lb ob oo oc wb sb n σ τ s) (hb : Below W.heap.size W W') : LAt W' lb ob oo oc wb sb n σ τ s := by
  have c : ∀ b o, b < W.heap.size → W'.cell? ⟨b, o, none⟩ = W.cell? ⟨b, o, none⟩ := fun b o hlt => hb.cell (p := ⟨b, o, none⟩) hlt
  have f : ∀ b o, b < W.heap.size → W'.frozen? ⟨b, o, none⟩ = W.frozen? ⟨b, o, none⟩ := fun b o hlt => hb.frozen (p := ⟨b, o, none⟩) hlt
  obtain ⟨l1, l2, l3, l4⟩ := h.lt
  have hz := hb.size
  exact ⟨by rw [c _ _ l1]; exact h.l0, by rw [c _ _ l1]; exact h.l1, by rw [c _ _ l1]; exact h.l2, by rw [c _ _ l1]; exact h.l3, fun i hi => by rw [c _ _ l2]; exact h.o i hi, fun i hi => by rw [c _ _ l3]; exact h.t i hi,
    fun i hi => by rw [c _ _ l4]; exact h.s i hi, fun i => by rw [f _ _ l4]; exact h.f i, h.nl, h.no, h.nw, by omega⟩

theorem half_iV (a : Nat) : Value.int .i64 ((a : Int) / 2) = iV (a / 2) := by
  unfold iV
  congr 1



set_option maxRecDepth 100000 in
set_option maxHeartbeats 2000000 in
theorem inner_any (n : Nat) (σ τ s : Nat → Nat) (lb ob oo oc wb sb : Nat) (hn256 : n ≤ 256) (hn0 : 0 < n) (ho : Ord2 n σ τ) (hs : Sided n σ s) (W : World) (hl : LAt W lb ob oo oc wb sb n σ τ s) :
    Calls Try.prog 45 #[.pointer (some ⟨lb, 0, none⟩)] W (InnerPost n σ s W) := by
  obtain ⟨i0, hi, hz0, hz1, hz2⟩ := info_parts infoInt
  have HL0 := Lib.hid hl
  have HO := Lib.hid ho
  have HS := Lib.hid hs
  clear hl ho hs
  go_enter Try.func45, Try.ntmps45
  go_wp2_with fail
  go_loopw [2, 3, 4, 5, 6] (fun u l i _ _ wr => ∃ j : Nat, j ≤ n / 2 ∧ i = .int .i64 ((2 * j : Nat) : Int) ∧ Hid (LAt wr lb ob oo oc wb sb n σ τ s) ∧ Hid (TwoL W wr u l j j (upO σ s) (loO n σ s))) (fun _ _ i _ _ _ => mo n - (intOf i).toNat)
  case atStart => exact ⟨0, Nat.zero_le _, rfl, HL0.out, World.ownsRow_nil _ _ _ _, World.ownsRow_nil _ _ _ _, Apart.nil_left _, fun q h => by simp [Value.ownBlock] at h, fun q h => by simp [Value.ownBlock] at h, Below.refl _ _⟩
  case round =>
    obtain ⟨j, hj, rfl, HL, HT⟩ := hrel
    have hk0 := HL.out.l0
    have hk1 := HL.out.l1
    have hk2 := HL.out.l2
    have hk3 := HL.out.l3
    unfold iV at hk3
    by_cases hjl : j < n / 2
    · have hd1 : 2 * (j : Int) < ((mo n : Nat) : Int) := by unfold mo; omega
      have h2 := HS.out.twoO HO.out hjl
      have hoa := HL.out.o (2 * j) (by omega)
      have hob := HL.out.o (2 * j + 1) (by omega)
      have hsa := HO.out.s (2 * j) (by omega)
      have hsb := HO.out.s (2 * j + 1) (by omega)
      have hup : upO σ s j = (if s (σ (2 * j)) = 2 then σ (2 * j + 1) else σ (2 * j)) / 2 := rfl
      have hlo : loO n σ s j = (if s (σ (2 * j)) = 2 then σ (2 * j) else σ (2 * j + 1)) / 2 := by unfold loO; rw [if_pos hjl]
      obtain ⟨ra, hra⟩ : ∃ r, σ (2 * j) = r := ⟨_, rfl⟩
      obtain ⟨rb, hrb⟩ : ∃ r, σ (2 * j + 1) = r := ⟨_, rfl⟩
      rw [hra] at h2 hoa hsa hup hlo
      rw [hrb] at h2 hob hsb hup hlo
      have hca := HL.out.s ra hsa
      have hnx : ((2 * j : Nat) : Int) + 2 = ((2 * (j + 1) : Nat) : Int) := by omega
      have hi1 : ((2 * j : Nat) : Int) + 1 = ((2 * j + 1 : Nat) : Int) := by omega
      have hj2 : j + 1 ≤ n / 2 := by omega
      have hin : 2 * j + 1 < n := by omega
      have hmn : 2 * j < mo n := by unfold mo; omega
      unfold iV at hoa hob hca
      clear hra hrb
      rcases h2 with ⟨h3, h4⟩ | ⟨h3, h4⟩
      · rw [h3] at hca
        rw [h3, if_neg (by decide)] at hup hlo
        have HUP := Lib.hid hup
        have HLO := Lib.hid hlo
        clear hup hlo h3 h4
        go_wp2_with fail
        go_quiet (fail)
        have HT2 := Lib.hid (HT.out.drewN nq)
        have HL2 : Hid (LAt (wr.drewN nq) lb ob oo oc wb sb n σ τ s) := ⟨HL.out.l0, HL.out.l1, HL.out.l2, HL.out.l3, HL.out.o, HL.out.t, HL.out.s, HL.out.f, HL.out.nl, HL.out.no, HL.out.nw, HL.out.lt⟩
        clear HT
        go_wp2_with (at_builtin; refine wpList_push (wr.drewN nq) rfl (.tmp 41) _ 25 rfl 3 i0 _ 1 8 Try.underlying25 hi hz0 hz1 hz2 rfl (by omega) u2 j (ordV j (upO σ s)) rfl HT2.out.pu _ _ _ rfl rfl rfl (by simp [Value.oneCell']) (by omega) (by unfold maxLen; omega) ?_)
        intro b1 c1 w1 hown hp
        have HT3 := Lib.hid (HT2.out.up (b := b1) (c := c1) (by rw [HUP.out, ← half_iV]; exact hown) hp)
        have HP := Lib.hid hp
        clear hown hp HT2
        go_wp2_with (at_builtin; refine wpList_push w1 rfl (.tmp 46) _ 25 rfl 3 i0 _ 1 8 Try.underlying25 hi hz0 hz1 hz2 rfl (by omega) u3 j (ordV j (loO n σ s)) rfl HT3.out.pl _ _ _ rfl rfl rfl (by simp [Value.oneCell']) (by omega) (by unfold maxLen; omega) ?_)
        intro b2 c2 w2 hown hp2
        have HT4 := Lib.hid (HT3.out.low (b := b2) (c := c2) (by rw [HLO.out, ← half_iV]; exact hown) hp2)
        clear hown hp2 HT3 HP
        have HL4 := Lib.hid (HL0.out.up HT4.out.b)
        go_wp2_with fail
        go_roundw
        case rel => exact ⟨j + 1, hj2, by first | rfl | rw [hnx], HL4.out, HT4.out⟩
        case measure => simp [intOf]; omega
      · rw [h3] at hca
        rw [h3, if_pos rfl] at hup hlo
        have HUP := Lib.hid hup
        have HLO := Lib.hid hlo
        clear hup hlo h3 h4
        go_wp2_with fail
        go_quiet (fail)
        have HT2 := Lib.hid (HT.out.drewN nq)
        have HL2 : Hid (LAt (wr.drewN nq) lb ob oo oc wb sb n σ τ s) := ⟨HL.out.l0, HL.out.l1, HL.out.l2, HL.out.l3, HL.out.o, HL.out.t, HL.out.s, HL.out.f, HL.out.nl, HL.out.no, HL.out.nw, HL.out.lt⟩
        clear HT
        go_wp2_with (at_builtin; refine wpList_push (wr.drewN nq) rfl (.tmp 41) _ 25 rfl 3 i0 _ 1 8 Try.underlying25 hi hz0 hz1 hz2 rfl (by omega) u2 j (ordV j (upO σ s)) rfl HT2.out.pu _ _ _ rfl rfl rfl (by simp [Value.oneCell']) (by omega) (by unfold maxLen; omega) ?_)
        intro b1 c1 w1 hown hp
        have HT3 := Lib.hid (HT2.out.up (b := b1) (c := c1) (by rw [HUP.out, ← half_iV]; exact hown) hp)
        have HP := Lib.hid hp
        clear hown hp HT2
        go_wp2_with (at_builtin; refine wpList_push w1 rfl (.tmp 46) _ 25 rfl 3 i0 _ 1 8 Try.underlying25 hi hz0 hz1 hz2 rfl (by omega) u3 j (ordV j (loO n σ s)) rfl HT3.out.pl _ _ _ rfl rfl rfl (by simp [Value.oneCell']) (by omega) (by unfold maxLen; omega) ?_)
        intro b2 c2 w2 hown hp2
        have HT4 := Lib.hid (HT3.out.low (b := b2) (c := c2) (by rw [HLO.out, ← half_iV]; exact hown) hp2)
        clear hown hp2 HT3 HP
        have HL4 := Lib.hid (HL0.out.up HT4.out.b)
        go_wp2_with fail
        go_roundw
        case rel => exact ⟨j + 1, hj2, by first | rfl | rw [hnx], HL4.out, HT4.out⟩
        case measure => simp [intOf]; omega
    · have hjn : j = n / 2 := by omega
      have hd1 : ¬ 2 * (j : Int) < ((mo n : Nat) : Int) := by unfold mo; omega
      rcases Nat.mod_two_eq_zero_or_one n with hp | hp
      · have hd2 : ¬ (n : Int) > ((mo n : Nat) : Int) := by unfold mo; omega
        have hd3 : ¬ mo n < n := by unfold mo; omega
        have HF : Hid (InnerPost n σ s W (.returned (.tuple #[u2, u3])) wr) := by
          have e : n - n / 2 = n / 2 := by omega
          refine ⟨u2, u3, rfl, ⟨?_, HT.out.nu⟩, ⟨?_, HT.out.nl⟩, HT.out.b⟩
          · rw [← hjn]; exact HT.out.pu
          · rw [e, ← hjn]; exact HT.out.pl
        clear hjn hp
        go_wp2_with fail
        go_ret2
        exact HF.out
      · have hd2 : (n : Int) > ((mo n : Nat) : Int) := by unfold mo; omega
        have hd3 : mo n < n := by unfold mo; omega
        have hlo : loO n σ s j = σ (n - 1) / 2 := by unfold loO; rw [if_neg (by omega)]
        have hoa := HL.out.o (n - 1) (by omega)
        have hi1 : (n : Int) - 1 = ((n - 1 : Nat) : Int) := by omega
        have hin : n - 1 < n := by omega
        obtain ⟨ra, hra⟩ : ∃ r, σ (n - 1) = r := ⟨_, rfl⟩
        have hsa := HO.out.s (n - 1) (by omega)
        rw [hra] at hlo hoa hsa
        unfold iV at hoa
        have HLO := Lib.hid hlo
        have HJ := Lib.hid hjn
        clear hlo hra hjn
        go_wp2_with (at_builtin; refine wpList_push wr rfl (.tmp 62) _ 25 rfl 3 i0 _ 1 8 Try.underlying25 hi hz0 hz1 hz2 rfl (by omega) u3 j (ordV j (loO n σ s)) rfl HT.out.pl _ _ _ rfl rfl rfl (by simp [Value.oneCell']) (by omega) (by unfold maxLen; omega) ?_)
        intro b2 c2 w2 hown hp2
        have HT4 := Lib.hid (HT.out.low (b := b2) (c := c2) (by rw [HLO.out, ← half_iV]; exact hown) hp2)
        clear hown hp2 HT
        have HF : Hid (InnerPost n σ s W (.returned (.tuple #[u2, .slice (some ⟨b2, 0, none⟩) (j + 1) c2])) w2) := by
          have hj9 := HJ.out
          have e : n - n / 2 = j + 1 := by omega
          refine ⟨u2, _, rfl, ⟨?_, HT4.out.nu⟩, ⟨?_, HT4.out.nl⟩, HT4.out.b⟩
          · rw [← hj9]; exact HT4.out.pu
          · rw [e]; exact HT4.out.pl
        go_wp2_with fail
        go_ret2
        exact HF.out

end Go.Proofs.Ytbjhcpchljjmhaa

/- slices.Concat of four lists of bools. No condition. -/
namespace Go.Proofs.Ytbjhcpchljjmhaa
open Go.RowKit Go.Shelf

def growRen : Go.Shelf.Ren := ⟨fun | 4 => 52 | n => n, fun | 0 => 0 | 3 => 3 | 4 => 4 | 9 => 9 | 20 => 20 | 22 => 41 | 25 => 4 | n => n, fun | n => n⟩

theorem growLays : Go.Proofs.Lays8.n4 Try.prog growRen := {
  mixed := by kernel_rfl
  f4 := ⟨Try.f52.name, by kernel_rfl, Try.func52.trans (congrArg some (by kernel_rfl))⟩
  t0 := Try.underlying0
  a0 := Try.isAgg0
  z0 := Try.sizeOf0
  v0 := Try.zeroValue0
  t3 := Try.underlying3
  a3 := Try.isAgg3
  z3 := Try.sizeOf3
  v3 := Try.zeroValue3
  t4 := Try.underlying4
  a4 := Try.isAgg4
  z4 := Try.sizeOf4
  v4 := Try.zeroValue4
  t9 := Try.underlying9
  a9 := Try.isAgg9
  z9 := Try.sizeOf9
  v9 := Try.zeroValue9
  t20 := Try.underlying20
  a20 := Try.isAgg20
  z20 := Try.sizeOf20
  v20 := Try.zeroValue20
  t22 := Try.underlying41
  a22 := Try.isAgg41
  z22 := Try.sizeOf41
  v22 := Try.zeroValue41 }

theorem infoBool : (Try.prog.info? 4).map (fun i => (i.zero, i.size, i.bytes)) = some (some (.bool false), 1, 1) := by kernel_rfl

/-- A slice of the call's own that holds bools. -/
structure MadeB (w w' : World) (v : Value) (bs : List Bool) : Prop where
  own : w'.ownsRow 0 4 1 v bs.length (bs.map Value.bool)
  new_ : ∀ q, v.ownBlock = some q → w.heap.size ≤ q

/-- A new row for n bools. -/
def GrowPost (w : World) (e : Ending) (w' : World) : Prop := ∃ v, e = .returned v ∧ MadeB w w' v [] ∧ Below w.heap.size w w'

theorem grow_any (n : Nat) (hn : 0 < n) (hm : n ≤ 1000000) (w : World) : Calls Try.prog 52 #[.slice none 0 0, .int .i64 (n : Int)] w (GrowPost w) := by
  obtain ⟨i0, hi, hz0, hz1, hz2⟩ := info_parts infoBool
  refine (Any8.slices_Grow_grow growLays i0 (.bool false) hi hz0 (by rw [hz1]; decide) none 0 0 n [] w (Nat.le_refl _) (by omega) (by rw [hz2]; omega) (by omega) (by simp) (fun _ => rfl) (fun a h => by cases h)).mono ?_
  rintro e w' ⟨rfl, rfl⟩
  refine ⟨_, rfl, ⟨?_, fun q hq => ?_⟩, ((Below.refl _ _).drew).alloc (Nat.le_refl _) _⟩
  · have hle := grownCap_le_maxLen w (0 + n) 0 (growRen.t 25) (by unfold maxLen; omega)
    have hge := grownCap_ge w (0 + n) 0 (growRen.t 25)
    have := World.ownsRow_made (base := 0) (size := 1) (e := 4) w.drew (([] : List Value).toArray ++ Builtin.zeroCells (Value.bool false).cells (0 + n - 0) ++ Builtin.zeroCells (Value.bool false).cells (grownCap w (0 + n) 0 (growRen.t 25) - (0 + n))) (grownCap w (0 + n) 0 (growRen.t 25)) (Nat.zero_le _) hle (by
      have hc1 : (Value.bool false).cells.size = 1 := rfl
      rw [Nat.zero_add] at hge ⊢
      simp [Builtin.zeroCells, hc1]
      omega)
    exact this
  · simp [Value.ownBlock] at hq
    omega

/-- What is put together: four lists of the call's own. -/
structure FourB (W : World) (cb : Nat) (v : Nat → Value) (bs : List (List Bool)) : Prop where
  lt : cb < W.heap.size
  c : ∀ i, i < 4 → W.cell? ⟨cb, i, none⟩ = some (v i)
  len : bs.length = 4
  own : ∀ i (h : i < bs.length), W.ownsRow 0 4 1 (v i) bs[i].length (bs[i].map Value.bool)

theorem FourB.up {W W' : World} {cb : Nat} {v : Nat → Value} {bs : List (List Bool)} (h : FourB W cb v bs) (hb : Below W.heap.size W W') : FourB W' cb v bs :=
  ⟨Nat.lt_of_lt_of_le h.lt hb.size, fun i hi => by rw [hb.cell (p := ⟨cb, i, none⟩) h.lt]; exact h.c i hi, h.len, fun i hi => (h.own i hi).kept (below_grown hb) (by cases (v i).ownBlock <;> simp)⟩

theorem flat_take (bs : List (List Bool)) (j : Nat) (h : j < bs.length) : (bs.take (j + 1)).flatten = (bs.take j).flatten ++ bs[j] := by
  rw [List.take_succ_eq_append_getElem h, List.flatten_append]
  simp

theorem flat_le (bs : List (List Bool)) (j : Nat) : (bs.take j).flatten.length ≤ bs.flatten.length := by
  have h : bs.flatten = (bs.take j).flatten ++ (bs.drop j).flatten := by rw [← List.flatten_append, List.take_append_drop]
  rw [h, List.length_append]
  omega

def CatPost (w : World) (l : List Bool) (e : Ending) (w' : World) : Prop := ∃ v, e = .returned v ∧ MadeB w w' v l ∧ Below w.heap.size w w'

set_option maxRecDepth 100000 in
set_option maxHeartbeats 2000000 in
theorem concat_any (cb : Nat) (v : Nat → Value) (bs : List (List Bool)) (W : World) (hf : FourB W cb v bs) (h0 : 0 < bs.flatten.length) (hm : bs.flatten.length ≤ 1000000) :
    Calls Try.prog 46 #[.slice (some ⟨cb, 0, none⟩) 4 4] W (CatPost W bs.flatten) := by
  obtain ⟨i0, hi, hz0, hz1, hz2⟩ := info_parts infoBool
  have HF := Lib.hid hf
  clear hf
  go_enter Try.func46, Try.ntmps46
  go_wp2_with fail
  go_loopw [3, 5, 11] (fun z _ i wr => ∃ j : Nat, j ≤ 4 ∧ z = .int .i64 ((bs.take j).flatten.length : Int) ∧ i = .int .i64 (j : Int) ∧ Hid (Below W.heap.size W wr)) (fun _ _ i _ => 4 - (intOf i).toNat)
  case atStart => exact ⟨0, by omega, rfl, rfl, Below.refl _ _⟩
  case round =>
    obtain ⟨j, hj, rfl, rfl, HB⟩ := hrel
    by_cases hjl : j < 4
    · have HF1 := Lib.hid (HF.out.up HB.out)
      have hcc := HF1.out.c j hjl
      have hlen := HF.out.len
      obtain ⟨a, c, hv, _⟩ := own_form (HF1.out.own j (by omega))
      have hfl := flat_take bs j (by omega)
      have hle := flat_le bs (j + 1)
      rw [hv] at hcc
      have hsum : ((bs.take j).flatten.length : Int) + (bs[j].length : Int) = ((bs.take (j + 1)).flatten.length : Int) := by rw [hfl, List.length_append]; omega
      have HS := Lib.hid hsum
      have h1 : (bs.take j).flatten.length ≤ 1000000 := Nat.le_trans (flat_le bs j) hm
      have h2 : bs[j].length ≤ 1000000 := by rw [hfl, List.length_append] at hle; omega
      generalize bs[j].length = m at *
      generalize (bs.take j).flatten.length = k at *
      have hk0 : ¬ ((k : Int) + (m : Int) < 0) := by omega
      clear hsum hfl hv
      go_wp2_with fail
      go_roundw
      case rel => exact ⟨j + 1, by omega, by rw [HS.out], by go_num, HB.out⟩
      case measure => simp [intOf]; omega
    · have hj4 : j = 4 := by omega
      subst hj4
      have hall : bs.take 4 = bs := List.take_of_length_le (by rw [HF.out.len]; exact Nat.le_refl _)
      rw [hall]
      generalize hN : bs.flatten.length = N at *
      have HN := Lib.hid hN
      have HALL := Lib.hid hall
      clear hN hall
      go_wp2_with fail
      refine (grow_any N h0 hm wr).mono ?_
      rintro e w1 ⟨u, rfl, hmade, hb1⟩
      have HM := Lib.hid hmade
      have HB1 := Lib.hid (below_up HB.out hb1)
      have hsz := HB.out.size
      have HNW : Hid (∀ q, u.ownBlock = some q → W.heap.size ≤ q) := fun q hq => by have := hmade.new_ q hq; omega
      clear hmade hb1 HB
      go_wp2_with fail
      go_loopw [6, 8, 27] (fun z _ i wr => ∃ j : Nat, j ≤ 4 ∧ i = .int .i64 (j : Int) ∧ Hid (wr.ownsRow 0 4 1 z (bs.take j).flatten.length ((bs.take j).flatten.map Value.bool)) ∧ Hid (∀ q, z.ownBlock = some q → W.heap.size ≤ q) ∧ Hid (Below W.heap.size W wr)) (fun _ _ i _ => 4 - (intOf i).toNat)
      case atStart => exact ⟨0, by omega, rfl, HM.out.own, HNW.out, HB1.out⟩
      case round =>
        clear HM HB1 HNW
        obtain ⟨j, hj, rfl, HZ, HNW, HB⟩ := hrel
        by_cases hjl : j < 4
        · have HF1 := Lib.hid (HF.out.up HB.out)
          have hcc := HF1.out.c j hjl
          have hlen := HF.out.len
          have HV := Lib.hid (HF1.out.own j (by omega))
          have HFL := Lib.hid (flat_take bs j (by omega))
          have hle := flat_le bs (j + 1)
          have hlN := HN.out
          rw [HFL.out, List.length_append] at hle
          have HHL : Hid ((bs.take j).flatten.length + bs[j].length ≤ 1000000) := by show _ ≤ _; omega
          clear hle hlN
          go_wp2_with (at_builtin; refine wpList_join wr rfl (.tmp 31) (.tmp 32) 41 rfl 4 i0 (.bool false) 1 1 Try.underlying41 hi hz0 hz1 hz2 rfl (by decide) u6 _ _ rfl HZ.out (v j) _ _ rfl HV.out ?c1 ?c2 ?c3 ?_)
          case c1 =>
            intro u hu
            obtain ⟨b, _, rfl⟩ := List.mem_map.1 hu
            rfl
          case c2 => have := HHL.out; omega
          case c3 => have := HHL.out; unfold maxLen; omega
          intro v' w' hown hgr
          have HZ2 : Hid (w'.ownsRow 0 4 1 v' (bs.take (j + 1)).flatten.length ((bs.take (j + 1)).flatten.map Value.bool)) := by
            show World.ownsRow _ _ _ _ _ _ _
            rw [HFL.out, List.length_append, List.map_append]
            simpa using hown
          have HN2 : Hid (∀ q, v'.ownBlock = some q → W.heap.size ≤ q) := hgr.from_ HB.out.size HNW.out
          have HB2 := Lib.hid (hgr.below HB.out HB.out.size HNW.out)
          clear hown hgr hcc
          go_wp2_with fail
          go_roundw
          case rel => exact ⟨j + 1, by omega, by go_num, HZ2.out, HN2.out, HB2.out⟩
          case measure => simp [intOf]; omega
        · have hj4 : j = 4 := by omega
          subst hj4
          rw [HALL.out] at HZ
          have HFF : Hid (CatPost W bs.flatten (.returned u6) wr) := ⟨u6, rfl, ⟨HZ.out, HNW.out⟩, HB.out⟩
          go_wp2_with fail
          go_ret
          exact HFF.out

end Go.Proofs.Ytbjhcpchljjmhaa

/- A region that draws its order, walked along a tree: where two operations that act may come up, both ways are walked. No condition beyond those that each law names. -/
namespace Go.Proofs.Ytbjhcpchljjmhaa
open Go.RowKit

def isNilCheck (o : Oper) : Bool := match o.op with | .nilCheck _ => true | _ => false

theorem nilCheck_value {P : Program} {ρ : Operand → Value} {o : Oper} (hp : isNilCheck o = true) {w w' : World} {n : Next} (h : (execOp ρ o).run P w = .ok n w') : ∃ x, n = .value x := by
  unfold isNilCheck at hp
  split at hp
  · rename_i x hx
    unfold execOp at h
    rw [hx] at h
    simp only at h
    split at h
    all_goals first
      | (simp at h; exact ⟨_, h.1.symm⟩)
      | (simp [runtimePanic] at h; done)
      | skip
    split at h
    · simp [runtimePanic] at h
    · rw [Sem.run_bind] at h
      cases hs : Sem.run P program w with
      | halt x w1 => rw [hs] at h; simp [Result.andThen] at h
      | ok pr w1 =>
        rw [hs] at h
        simp only [Result.andThen] at h
        rw [Sem.run_bind] at h
        cases hs2 : Sem.run P (nilAhead (pr.types.size + Made.depth) ‹_› ‹_› ‹_›) w1 with
        | halt x w2 => rw [hs2] at h; simp [Result.andThen] at h
        | ok z w2 =>
          rw [hs2] at h
          simp only [Result.andThen] at h
          split at h
          · simp [unsupported] at h
          · simp at h
            exact ⟨_, h.1.symm⟩
    · simp at h
      exact ⟨_, h.1.symm⟩
  · cases hp

/-- Operations that only yield a value, checks against nil among them. -/
def easyOp (o : Oper) : Bool := plainOp o || isNilCheck o

theorem easy_value {P : Program} {ρ : Operand → Value} {o : Oper} (hp : easyOp o = true) {w w' : World} {n : Next} (h : (execOp ρ o).run P w = .ok n w') : ∃ x, n = .value x := by
  unfold easyOp at hp
  cases hq : plainOp o with
  | true => exact plain_value hq h
  | false => rw [hq] at hp; exact nilCheck_value (by simpa using hp) h

/-- The orders: an operation that only reads is taken at once; of those that act, one, or two in either order. -/
inductive Tree where
  | done : Tree
  | q : Nat → Tree → Tree
  | a : Nat → Tree → Tree
  | two : Nat → Tree → Nat → Tree → Tree

/-- The first operations only read. -/
def Tree.qs : List Nat → Tree → Tree
  | [], t => t
  | i :: l, t => .q i (Tree.qs l t)

def Tree.size : Tree → Nat
  | .done => 0
  | .q _ r => r.size + 1
  | .a _ r => r.size + 1
  | .two _ r _ _ => r.size + 1

def wpTree (P : Program) (ops : Array Oper) (S : World → Prop) (Q : Exit → Act → World → Prop) : Tree → Act → World → Prop
  | .done, a, w => Q .normal a w
  | .q i r, a, w => match ops[i]? with
    | none => False
    | some o => easyOp o = true ∧ wpQuiet P ops S (fun a' => wpTree P ops S Q r a' w) [o] a
  | .a i r, a, w => wpOp P ops Q i (fun a' w' => S w' ∧ wpTree P ops S Q r a' w') a w
  | .two i r j s, a, w => wpOp P ops Q i (fun a' w' => S w' ∧ wpTree P ops S Q r a' w') a w ∧ wpOp P ops Q j (fun a' w' => S w' ∧ wpTree P ops S Q s a' w') a w

def treeB (md : Region.Mode) (ops : Array Oper) : Tree → Array Bool → Bool
  | .done, listed => (Region.ready md ops listed).isEmpty
  | .q i r, listed => (Region.ready md ops listed).contains i && Region.free md ops listed i && treeB md ops r (listed.setIfInBounds i true)
  | .a i r, listed => decide (Region.ready md ops listed = [i]) && treeB md ops r (listed.setIfInBounds i true)
  | .two i r j s, listed => decide (Region.ready md ops listed = [i, j]) && decide (r.size = s.size) && treeB md ops r (listed.setIfInBounds i true) && treeB md ops s (listed.setIfInBounds j true)

section
variable {P : Program} {ops : Array Oper} {S : World → Prop} {Q : Exit → Act → World → Prop}

theorem yieldsIf_easy {o : Oper} {a : Act} {K : Act → Prop} (hp : easyOp o = true) (h : wpQuiet P ops S K [o] a) : ∃ v, YieldsIf P ops S o v a ∧ K (a.put o.dst v) := by
  unfold wpQuiet at h
  by_cases hw : Region.wanted o (yielded ops a.tmps) = true
  · rw [if_pos hw] at h
    obtain ⟨v, h1, h2⟩ := h
    refine ⟨v, Or.inl ⟨hw, fun w hw' => ?_⟩, h2⟩
    have h3 := h1 w hw'
    unfold Oper.quietAt at h3
    cases hr : (execOp a.eval o).run P w with
    | ok n w1 =>
      obtain ⟨x, rfl⟩ := easy_value hp hr
      rw [hr] at h3
      simp only [Oper.quietUpon] at h3
      rw [h3.1, h3.2]
    | halt x w1 =>
      rw [hr] at h3
      simp only [Oper.quietUpon] at h3
  · rw [if_neg hw] at h
    exact ⟨undef, Or.inr ⟨by simpa using hw, rfl⟩, h⟩

theorem held_of_tree {md : Region.Mode} (hsel : Region.noSelect ops = true) (hQ : ∀ c a d v w, Q (.panic c) (a.put d v) w → Q (.panic c) a w) :
    ∀ (t : Tree) (listed : Array Bool) (a : Act) (w : World), S w → treeB md ops t listed = true → wpTree P ops S Q t a w → wpAnyH P md ops Q S t.size listed a w
  | .done, listed, a, w, _, hB, h => wpAnyH_done (by simpa [treeB] using hB) h 0
  | .q i r, listed, a, w, hS, hB, h => by
    unfold wpTree at h
    split at h
    · cases h
    · rename_i o ho
      obtain ⟨hp, hq⟩ := h
      obtain ⟨v, hy, hK⟩ := yieldsIf_easy hp hq
      simp only [treeB, Bool.and_eq_true] at hB
      exact wpAnyH_take ho hsel hB.1.2 hB.1.1 (fun c a w hq => hQ c a _ _ w hq) hy hS (held_of_tree hsel hQ r _ _ w hS hB.2 hK)
  | .a i r, listed, a, w, hS, hB, h => by
    simp only [treeB, Bool.and_eq_true, decide_eq_true_eq] at hB
    unfold wpTree at h
    refine wpAnyH_all hB.1 (by simp) ?_
    intro j hj
    have hj' : j = i := by simpa using hj
    subst hj'
    exact wpOp_mono (fun a' w' ⟨hS', h'⟩ => ⟨hS', held_of_tree hsel hQ r _ a' w' hS' hB.2 h'⟩) h
  | .two i r j s, listed, a, w, hS, hB, h => by
    simp only [treeB, Bool.and_eq_true, decide_eq_true_eq] at hB
    obtain ⟨⟨⟨h1, h2⟩, h3⟩, h4⟩ := hB
    unfold wpTree at h
    refine wpAnyH_all h1 (by simp) ?_
    intro k hk
    rcases (by simpa using hk : k = i ∨ k = j) with rfl | rfl
    · exact wpOp_mono (fun a' w' ⟨hS', h'⟩ => ⟨hS', held_of_tree hsel hQ r _ a' w' hS' h3 h'⟩) h.1
    · exact wpOp_mono (fun a' w' ⟨hS', h'⟩ => ⟨hS', by rw [h2]; exact held_of_tree hsel hQ s _ a' w' hS' h4 h'⟩) h.2

theorem wp_region_tree {id : Nat} {a : Act} {w : World} {l : List Oper} (S : World → Prop) (t : Tree) (hm : P.follows .mixedOrders = true)
    (hB : (Region.noSelect l.toArray && decide (t.size = l.toArray.size) && treeB .any l.toArray t (Array.replicate l.toArray.size false)) = true)
    (hQ : ∀ c a d v w, Q (.panic c) (a.put d v) w → Q (.panic c) a w) (hS : S w.drew) (h : wpTree P l.toArray S Q t a w.drew) : (Code.region id l.toArray true).wp P Q a w := by
  simp only [Bool.and_eq_true, decide_eq_true_eq] at hB
  refine wp_region_held (S := S) hm ?_
  have := held_of_tree hB.1.1 hQ t _ a _ hS hB.2 h
  rw [hB.1.2] at this
  exact this

theorem tree_q {l : List Oper} {i : Nat} {r : Tree} {o : Oper} {a : Act} {w : World} (ho : l[i]? = some o) (hp : easyOp o = true) (h : wpQuiet P l.toArray S (fun a' => wpTree P l.toArray S Q r a' w) [o] a) :
    wpTree P l.toArray S Q (.q i r) a w := by
  unfold wpTree
  rw [List.getElem?_toArray, ho]
  exact ⟨hp, h⟩

theorem tree_a {l : List Oper} {i : Nat} {r : Tree} {o : Oper} {a : Act} {w : World} (ho : l[i]? = some o)
    (h : ∀ K : Act → World → Prop, (∀ a w, S w ∧ wpTree P l.toArray S Q r a w → K a w) → if Region.wanted o (yielded l.toArray a.tmps) = true then Oper.wp P o a w K Q else K (a.put o.dst undef) w) :
    wpTree P l.toArray S Q (.a i r) a w := by
  unfold wpTree
  exact wpOp_step (by rw [List.getElem?_toArray, ho]) h

theorem tree_two {l : List Oper} {i j : Nat} {r s : Tree} {o u : Oper} {a : Act} {w : World} (ho : l[i]? = some o) (hu : l[j]? = some u)
    (h : ∀ K : Act → World → Prop, (∀ a w, S w ∧ wpTree P l.toArray S Q r a w → K a w) → if Region.wanted o (yielded l.toArray a.tmps) = true then Oper.wp P o a w K Q else K (a.put o.dst undef) w)
    (h' : ∀ K : Act → World → Prop, (∀ a w, S w ∧ wpTree P l.toArray S Q s a w → K a w) → if Region.wanted u (yielded l.toArray a.tmps) = true then Oper.wp P u a w K Q else K (a.put u.dst undef) w) :
    wpTree P l.toArray S Q (.two i r j s) a w := by
  unfold wpTree
  exact ⟨wpOp_step (by rw [List.getElem?_toArray, ho]) h, wpOp_step (by rw [List.getElem?_toArray, hu]) h'⟩

theorem tree_end {a : Act} {w : World} (h : Q .normal a w) : wpTree P ops S Q .done a w := h
end

end Go.Proofs.Ytbjhcpchljjmhaa

/- The program's plan of a network. No condition. -/
namespace Go.Proofs.Ytbjhcpchljjmhaa
open Go.RowKit

theorem iota_made (n : Nat) : (madeCells #[Value.int .i64 0] n).toList = (iota 0 ++ List.replicate n 0).map (Value.int .i64) := by
  apply List.ext_getElem
  · simp [madeCells, iota]
  · intro i h1 h2
    simp [madeCells, iota, Nat.mod_one]

theorem iota_set (j n : Nat) (h : j < n) : ((iota j ++ List.replicate (n - j) 0).map (Value.int .i64)).set j (.int .i64 (j : Int)) = (iota (j + 1) ++ List.replicate (n - (j + 1)) 0).map (Value.int .i64) := by
  rw [iota_succ, show n - j = (n - (j + 1)) + 1 by omega, List.replicate_succ]
  simp [iota_length]

def WiresPost (w : World) (n : Nat) (e : Ending) (w' : World) : Prop :=
  ∃ u, e = .returned u ∧ Made w w' u (iota n) ∧ Below w.heap.size w w'

set_option maxHeartbeats 1000000 in
theorem wires_any (n : Nat) (w : World) (hn : n ≤ 4096) : Calls Try.prog 34 #[.int .i64 n] w (WiresPost w n) := by
  obtain ⟨i0, hi, hz0, hz1, hz2⟩ := info_parts infoInt
  go_enter Try.func34, Try.ntmps34
  go_wp2_with (at_make; refine wpList_make_full _ rfl _ _ 25 rfl 0 3 i0 (.int .i64 0) 1 Try.underlying25 hi hz0 hz1 _ _ _ _ n rfl rfl ?c1 ?c2 ?c3 ?c4 ?c5 ?_)
  case c1 => rfl
  case c2 => rfl
  case c3 => rw [hz2]; omega
  case c4 => unfold maxLen; omega
  case c5 => omega
  intro w1 hown hgrow
  have hb1 : Below w.heap.size w w1 := (Below.refl _ _).grown hgrow (Nat.le_refl _) (by simp)
  have e0 : (madeCells (Value.int .i64 0).cells (n * 1)).toList = (iota 0 ++ List.replicate (n - 0) 0).map (Value.int .i64) := by
    rw [Nat.mul_one]; exact iota_made n
  have hown1 : w1.ownsRow 0 3 1 (.slice (some ⟨w.heap.size, 0, none⟩) n n) n ((iota 0 ++ List.replicate (n - 0) 0).map (Value.int .i64)) := by
    have h := hown
    simpa [iota, iota_made] using h
  clear hown hgrow e0
  go_wp2
  go_loopw [9] (fun i wr => ∃ j : Nat, j ≤ n ∧ i = .int .i64 j ∧ Hid (wr.ownsRow 0 3 1 (.slice (some ⟨w.heap.size, 0, none⟩) n n) n ((iota j ++ List.replicate (n - j) 0).map (Value.int .i64))) ∧
      Below w.heap.size w wr) (fun i _ => n - (intOf i).toNat)
  case atStart => exact ⟨0, Nat.zero_le _, rfl, hown1, hb1⟩
  case round =>
    clear hown1 hb1
    obtain ⟨j, hj, rfl, HO, hbl⟩ := hrel
    by_cases hjl : j < n
    · have hc := HO.out.cellAt j (by omega)
      have hlen : j < ((iota j ++ List.replicate (n - j) 0).map (Value.int .i64)).length := by simp [iota_length]; omega
      rw [List.getElem?_eq_getElem hlen] at hc
      have hf := HO.out.frozenAt j
      have HS := Lib.hid (HO.out.stored j (.int .i64 (j : Int)))
      generalize ((iota j ++ List.replicate (n - j) 0).map (Value.int .i64))[j] = old at hc
      clear hlen
      go_wp2
      go_roundw
      case rel => exact ⟨j + 1, by omega, by go_num, by have h := HS.out.1; rw [iota_set j n hjl] at h; exact h, hbl.setCell (by exact Nat.le_refl _) _⟩
      case measure => simp [intOf]; omega
    · have hjn : j = n := by omega
      subst hjn
      go_wp2
      go_ret
      exact ⟨_, rfl, ⟨by have h := HO.out; simpa [iota_length] using h, fun q h => by simp [Value.ownBlock] at h; omega⟩, hbl⟩

/-- A list of gates that the call has made. -/
structure MadeG (w w' : World) (v : Value) (gs : List (Int × Int)) : Prop where
  own : w'.ownsRow 0 33 2 v gs.length (flat gs)
  new_ : ∀ q, v.ownBlock = some q → w.heap.size ≤ q

def PlanPost (w : World) (n : Nat) (e : Ending) (w' : World) : Prop :=
  ∃ u, e = .returned u ∧ MadeG w w' u (gatesL (iota n)) ∧ Below w.heap.size w w'

theorem wantTo_le : ∀ n, wantTo n ≤ n * 9
  | 0 => by simp [wantTo]
  | n + 1 => by
    have ih := wantTo_le n
    have h : ∀ f, logUp (n + 1) f ≤ f := by
      intro f
      induction f with
      | zero => simp [logUp]
      | succ f ih => simp only [logUp]; split <;> omega
    have h9 := h 9
    rw [wantTo]
    split <;> omega

theorem gates_le (n : Nat) (hn : n ≤ 256) : (gatesL (iota n)).length ≤ 4096 := by
  have h := gatesL_length (iota n) (by rw [iota_length]; exact hn)
  rw [iota_length] at h
  have := wantTo_le n
  omega

set_option maxHeartbeats 1000000 in
theorem plan_any (n : Nat) (w : World) (hn : n ≤ 256) : Calls Try.prog 26 #[.int .i64 n] w (PlanPost w n) := by
  have hle := gates_le n hn
  have hil := iota_length n
  have HL := Lib.hid hle
  have HI := Lib.hid hil
  clear hle hil
  go_enter Try.func26, Try.ntmps26
  go_wp2_with fail
  refine (wires_any n _ (by omega)).mono ?_
  rintro e w1 ⟨u, rfl, hm, hb1⟩
  obtain ⟨au, cu, rfl, _⟩ := own_form hm.own
  have hblk : w1.heap[w.heap.size]? = some (.cells #[.slice none 0 0] 29 (0, 0)) := by
    rw [hb1.block _ (by simp)]; exact heap_alloc_new w _
  have hg : Gath w1 w.heap.size [] (.slice none 0 0) := ⟨hblk, World.ownsRow_nil _ _ _ _, by simp [Value.ownBlock]⟩
  have HG := Lib.hid hg
  have HM := Lib.hid hm
  have HB : Hid (Below w.heap.size w w1) := below_up ((Below.refl _ _).alloc (Nat.le_refl _) _) hb1
  have HS : Hid (∀ b o, au = some ⟨b, o, none⟩ → Safe w1 w.heap.size (.slice none 0 0) b) := by
    intro b o e
    subst e
    have h1 := hm.new_ b (by simp [Value.ownBlock])
    have h2 := (hm.own.lt b (by simp [Value.ownBlock])).2
    simp at h1
    exact ⟨h2, by omega, by simp [Value.ownBlock]⟩
  clear hg hm hb1 hblk
  go_wp2_with fail
  refine (gates_any n (iota n) (by rw [HI.out]; exact Nat.le_refl _) au cu w.heap.size [] (.slice none 0 0) w1 HG.out (Sl.of_own HM.out.own) HS.out (by rw [HI.out]; omega) (by have := HL.out; simp; omega)).mono ?_
  rintro e w2 ⟨rfl, HA⟩
  obtain ⟨v2, hg2, hs2⟩ := HA
  have hc : w2.cell? ⟨w.heap.size, 0, none⟩ = some v2 := cell_of_one hg2.blk
  have fin : PlanPost w n (.returned v2) w2 := by
    refine ⟨v2, rfl, ⟨by simpa using hg2.own, fun q hq => ?_⟩, HB.out.trans (hs2.below (Nat.le_refl _) (fun q h => by simp [Value.ownBlock] at h) HB.out.size)⟩
    rcases hs2.next q hq with h | h
    · simp [Value.ownBlock] at h
    · have := HB.out.size; omega
  clear hg2 hs2
  go_wp2_with fail
  go_ret
  exact fin

set_option maxHeartbeats 400000 in
theorem good_any (n : Int) (b : Bool) (w : World) (hb : decide (1 ≤ n ∧ n ≤ 256) = b) : Calls Try.prog 25 #[.int .i64 n] w fun e w' => e = .returned (.bool b) ∧ w = w' := by
  have HB := Lib.hid hb
  clear hb
  go_enter Try.func25, Try.ntmps25
  go_wp2
  all_goals
    go_ret
    refine ⟨ret_bool ?_, rfl⟩
    rw [← HB.out]
    simp [*]
  all_goals omega

theorem Plan_bad (n : Int) (w : World) (hn : ¬ (1 ≤ n ∧ n ≤ 256)) : Calls Try.prog 11 #[.int .i64 n] w fun e w' => e = .returned (.tuple #[.slice none 0 0, .int .i64 4]) ∧ w = w' := by
  have hb : decide (1 ≤ n ∧ n ≤ 256) = false := by simpa using hn
  have HB := Lib.hid hb
  clear hb hn
  go_enter Try.func11, Try.ntmps11
  go_wp2_with (go_at_call 25; refine (good_any n false _ HB.out).mono ?_; rintro e w1 ⟨rfl, rfl⟩)
  go_ret2
  exact ⟨rfl, rfl⟩

def PlanPost2 (w : World) (n : Nat) (e : Ending) (w' : World) : Prop :=
  ∃ u, e = .returned (.tuple #[u, .int .i64 0]) ∧ MadeG w w' u (gatesL (iota n)) ∧ Below w.heap.size w w'

theorem Plan_ok (n : Nat) (w : World) (h1 : 1 ≤ n) (h2 : n ≤ 256) : Calls Try.prog 11 #[.int .i64 n] w (PlanPost2 w n) := by
  have hb : decide (1 ≤ (n : Int) ∧ (n : Int) ≤ 256) = true := by simp; omega
  have HB := Lib.hid hb
  clear hb
  go_enter Try.func11, Try.ntmps11
  go_wp2_with (go_at_call 25; refine (good_any n true _ HB.out).mono ?_; rintro e w1 ⟨rfl, rfl⟩)
  refine (plan_any n w h2).mono ?_
  rintro e w1 ⟨u, rfl, hm, hb1⟩
  have fin : PlanPost2 w n (.returned (.tuple #[u, .int .i64 0])) w1 := ⟨u, rfl, hm, hb1⟩
  clear hm hb1
  go_wp2_with fail
  go_ret2
  exact fin

end Go.Proofs.Ytbjhcpchljjmhaa
