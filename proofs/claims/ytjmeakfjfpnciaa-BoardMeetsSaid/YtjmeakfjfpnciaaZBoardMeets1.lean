/- Texts of this seat, one behind the other: what BoardMeets leans on. No condition beyond those that each names. -/
import Derived.WalkKit
import Derived.WalkSpells
import Derived.WalkLawsBesides
import Derived.Lib.Hide
import Derived.BigQuiet
import Derived.Deep.AppendLies
import Derived.Laws.AppendOwnNone
import Derived.StillTailTactics
import Derived.OrdersHeld
import Derived.Shelf.Strings.Builder1
import Derived.Shelf.Strings.Builder2
import Derived.Shelf.Small.Bits
import Derived.Shelf.Strings.BuilderF
import Derived.Shelf.Strings.BuilderK
import Derived.Shelf.Strings.Builder2Cap
import Derived.Shelf.Strconv.Itoa0
import Derived.Shelf.Bits.Mul64
import Derived.Shelf.Strings.BuilderCap
import Derived.Test.YtjmeakfjfpnciaaProg
import Derived.Shelf.Spec.BitsCarry
import Derived.BigRegion
import Derived.Laws.Cover3
import Derived.Laws.BitsAllLaws
import Derived.Lib.EndianBits
import Derived.Deep.QuietTactic
import Derived.Laws.BytesArg
import Derived.Laws.StructEq
import Derived.ChangeKeysEq
import Derived.Deep.Cut
import Derived.Deep.CutRange
import Derived.IntWalk
import Derived.Lib.BitFns
import Derived.RegionTactic
import Derived.Outline
import Derived.Deep.MidRow
import Derived.Deep.WholeRow
import Derived.Laws.CopyOwn
import Derived.Lib.BufferWrite
import Derived.Lib.SliceRun
import Derived.LoopTactic
import Derived.Lib.SlBytesConst

set_option maxRecDepth 100000
set_option maxHeartbeats 4000000
set_option linter.unusedVariables false
set_option linter.unusedSimpArgs false
namespace Go.Proofs.Ytjmeakfjfpnciaa
open Go.RowKit
theorem below_up {W w w1 : World} (h : Below W.heap.size W w) (h1 : Below w.heap.size w w1) : Below W.heap.size W w1 :=
 h.trans (h1.mono h.size)
theorem below_grown {w w' : World} (h : Below w.heap.size w w') : w.grownBy w' none :=
 ⟨h.os, h.tape, h.output, h.size, fun k hk _ => h.block k hk⟩
theorem ret_int {k : IntKind} {a b : Int} (h : a = b) : Ending.returned (.int k a) = .returned (.int k b) := by rw [h]
theorem ret_bool {a b : Bool} (h : a = b) : Ending.returned (.bool a) = .returned (.bool b) := by rw [h]
def Sl (w : World) (B : Nat) (a : Option Addr) (cs : List Value) : Prop :=
 cs = [] ∨ ∃ b off, a = some ⟨b, off, none⟩ ∧ b < B ∧ ∀ i v, cs[i]? = some v → w.cell? ⟨b, off + i, none⟩ = some v
theorem Sl.at {w : World} {B : Nat} {a : Option Addr} {cs : List Value} (h : Sl w B a cs) (i : Nat) (hi : i < cs.length) :
  ∃ b off, a = some ⟨b, off, none⟩ ∧ b < B ∧ w.cell? ⟨b, off + i, none⟩ = some cs[i] := by
 rcases h with rfl | ⟨b, off, rfl, hb, hc⟩
 ·simp at hi
 ·exact ⟨b, off, rfl, hb, hc i _ (List.getElem?_eq_getElem hi)⟩
theorem Sl.below {w w1 : World} {B : Nat} {a : Option Addr} {cs : List Value} (h : Sl w B a cs) (hb : Below B w w1) : Sl w1 B a cs := by
 rcases h with rfl | ⟨b, off, rfl, hB, hc⟩
 ·exact Or.inl rfl
 ·exact Or.inr ⟨b, off, rfl, hB, fun i v hv => by rw [hb.cell (p := ⟨b, off + i, none⟩) hB]; exact hc i v hv⟩
structure Over (W : World) where
 w : World
 h : Below W.heap.size W w
instance (W : World) : Nonempty (Over W) := ⟨⟨W, Below.refl _ _⟩⟩
theorem Over.cell {W : World} (E : Over W) {b : Nat} (o : Nat) (h : b < W.heap.size) : E.w.cell? ⟨b, o, none⟩ = W.cell? ⟨b, o, none⟩ := E.h.cell (p := ⟨b, o, none⟩) h
theorem wp_region_over {P : Program} {id : Nat} {Q : Exit → Act → World → Prop} {a : Act} {w : World} {l : List Oper} (hm : P.follows .mixedOrders = true) (hB : Region.lexB .any l.toArray = true)
  (h : wpQuiet P l.toArray (fun w' => ∃ E : Over w, w' = E.w) (fun a' => ∀ w', (∃ E : Over w, w' = E.w) → Q .normal a' w') l a) : (Code.region id l.toArray true).wp P Q a w :=
 wp_region_quiet (C := fun w' => ∃ E : Over w, w' = E.w) hm hB ⟨⟨_, (Below.refl _ _).drew⟩, rfl⟩ (by simpa using h)
theorem calls_over {P : Program} {f : FuncId} {args : Array Value} {W : World} {E : Over W} {v : Value}
  (h : Calls P f args E.w fun e w' => e = .returned v ∧ Below E.w.heap.size E.w w') : Calls P f args E.w fun e w'' => e = .returned v ∧ ∃ E' : Over W, w'' = E'.w :=
 h.mono fun _ w' ⟨he, hb⟩ => ⟨he, ⟨w', below_up E.h hb⟩, rfl⟩
theorem Sl.mono {w : World} {B B' : Nat} {a : Option Addr} {cs : List Value} (h : Sl w B a cs) (hB : B ≤ B') : Sl w B' a cs := by
 rcases h with rfl | ⟨b, off, rfl, hb, hc⟩
 ·exact Or.inl rfl
 ·exact Or.inr ⟨b, off, rfl, by omega, hc⟩
theorem Sl.up {W w : World} {a : Option Addr} {cs : List Value} (h : Sl W W.heap.size a cs) (hb : Below W.heap.size W w) : Sl w w.heap.size a cs :=
 (h.below hb).mono hb.size
end Go.Proofs.Ytjmeakfjfpnciaa
namespace Go.Proofs.Ytjmeakfjfpnciaa
open Go.RowKit
section
variable {w w' : World} {u v : Value} {g base e k n c m : Nat} {xs : List Value}
end
structure Grew (w w' : World) (v v' : Value) : Prop where
 grown : w.grownBy w' v.ownBlock
 here : ∀ q, v'.ownBlock = some q → v.ownBlock = some q ∨ w.heap.size ≤ q
section
variable {w w' : World} {u v v' : Value} {base e k n m : Nat} {xs : List Value}
theorem Grew.refl (w : World) (v : Value) : Grew w w v v := ⟨⟨rfl, rfl, rfl, Nat.le_refl _, fun _ _ _ => rfl⟩, fun _ h => Or.inl h⟩
theorem Grew.below {W : World} {B : Nat} (h : Grew w w' v v') (hb : Below B W w) (hB : B ≤ w.heap.size) (hv : ∀ q, v.ownBlock = some q → B ≤ q) : Below B W w' := hb.grown h.grown hB hv
theorem Grew.from_ {B : Nat} (h : Grew w w' v v') (hB : B ≤ w.heap.size) (hv : ∀ q, v.ownBlock = some q → B ≤ q) : ∀ q, v'.ownBlock = some q → B ≤ q := by
 intro q hq
 rcases h.here q hq with h1 | h1
 ·exact hv _ h1
 ·omega
end
theorem wpList_join {P : Program} (w : World) {ops : Array Oper} {rest : List Oper} {o : Oper} {a : Act} {Q : Exit → Act → World → Prop} (hgd : o.guard = none) (s x : Operand) (t : TypeId)
  (ho : o.op = .call { callee := .builtin .append, args := #[s, x], argTypes := #[t, t] })
  (e : TypeId) (i : TypeInfo) (z : Value) (size bytes : Nat) (ht : P.underlying t = some (.slice e)) (hi : P.info? e = some i) (hz : i.zero = some z)
  (hsize : i.size = size) (hby : i.bytes = bytes) (hzs : z.cells.size = size) (hsz : 0 < size)
  (v : Value) (n : Nat) (xs : List Value) (hs : a.eval s = v) (hown : w.ownsRow 0 e size v n xs)
  (u : Value) (m : Nat) (ys : List Value) (hx : a.eval x = u) (hu : w.ownsRow 0 e size u m ys) (h1 : ∀ u ∈ ys, u.oneCell' = true)
  (h63 : (n + m) * bytes ≤ 140737488355328) (hn : n + m ≤ maxLen)
  (h : ∀ v' w', w'.ownsRow 0 e size v' (n + m) (xs ++ ys) → Grew w w' v v' → wpList P ops Q rest (a.put o.dst v') w') :
  wpList P ops Q (o :: rest) a w := by
 rcases hu.2 with ⟨hu0, hm0⟩ | ⟨g, cap, cur, hug, _, hgg, _⟩
 ·subst hu0; subst hm0
  have hys : ys = [] := by have := hu.1; exact List.length_eq_zero_iff.1 (by simpa using this)
  subst hys
  refine wpList_append_own_none hgd s x t ho 0 e i size ht hi v n xs hs hown hx ?_
  exact h v w (by simpa using hown) (Grew.refl _ _)
 ·subst hug
  refine wpList_plain hgd fun K hK => ?_
  obtain ⟨v', w', hr, h2, h3, _, h5⟩ := run_append_own_at (P := P) w 0 t o.type e i z size bytes ht hi hz hsize hby hzs hsz v n xs hown ⟨g, 0, none⟩ m cap ys hu.1 (hu.cells (g := g) rfl) h1 hn h63 (Nat.zero_le _)
  unfold Oper.wp execOp
  simp only [ho, resolve, invoke, builtin, Sem.run_bind, Sem.run_pure, Result.andThen_ok, List.map_toArray, List.map_cons, List.map_nil, hs, hx, hr]
  refine hK _ _ (h v' w' h2 ⟨h3, fun q hq => ?_⟩)
  rcases h5 with h5 | h5
  ·exact Or.inl (h5 ▸ hq)
  ·right; rw [h5] at hq; simp at hq; omega
end Go.Proofs.Ytjmeakfjfpnciaa
namespace Go.Proofs.Ytjmeakfjfpnciaa
open Go.RowKit
def plainOp (o : Oper) : Bool :=
 match o.op with
 | .move _ | .assign _ | .pick _ _ _ | .build _ _ | .load _ _ | .binOp _ _ _ _ _ | .unOp _ _ _ | .convert _ _ _ | .slice _ _ _ _ _ | .fieldAddr _ _ _ | .field _ _ _ | .indexAddr _ _ _ | .index _ _ _
 | .lookup _ _ _ _ | .extract _ _ | .makeInterface _ _ | .makeFunc _ _ _ => true
 | .call c => match c.callee with
  | .builtin .len | .builtin .cap => true
  | _ => false
 | _ => false
theorem run_value {α : Type} {P : Program} (s : Sem α) (f : α → Value) (w : World) {n : Next} {w' : World} (h : Sem.run P (do pure (Next.value (f (← s)))) w = .ok n w') : ∃ x, n = .value x := by
 rw [Sem.run_bind] at h
 cases hs : Sem.run P s w with
 | ok x w1 => rw [hs] at h; simp [Result.andThen] at h; exact ⟨_, h.1.symm⟩
 | halt x w1 => rw [hs] at h; simp [Result.andThen] at h
theorem plain_value {P : Program} {ρ : Operand → Value} {o : Oper} (hp : plainOp o = true) {w w' : World} {n : Next} (h : (execOp ρ o).run P w = .ok n w') : ∃ x, n = .value x := by
 unfold execOp at h
 unfold plainOp at hp
 split at h
 all_goals first
  | exact run_value _ (fun x => x) _ h
  | (simp_all; done)
  | (simp at h; exact ⟨_, h.1.symm⟩)
  | (rename_i c _ _ _; exact run_value (asBool (ρ c)) (fun b => if b = true then _ else _) _ h)
  | skip
 rename_i c hc
 rw [hc] at hp
 simp only at hp
 split at hp
 ·rename_i hl
  simp [resolve, hl, invoke, builtin] at h
  exact run_value _ (fun x => x) _ (by simpa using h)
 ·rename_i hl
  simp [resolve, hl, invoke, builtin] at h
  exact run_value _ (fun x => x) _ (by simpa using h)
 ·cases hp
section
variable {P : Program} {ops : Array Oper} {S : World → Prop} {Q : Exit → Act → World → Prop}
end
structure But (W : World) (row : Option Nat) where
 w : World
 h : W.grownBy w row
instance (W : World) (row : Option Nat) : Nonempty (But W row) := ⟨⟨W, ⟨rfl, rfl, rfl, Nat.le_refl _, fun _ _ _ => rfl⟩⟩⟩
theorem But.cell {W : World} {row : Option Nat} (E : But W row) {b : Nat} (o : Nat) (hb : b < W.heap.size) (hr : row ≠ some b) : E.w.cell? ⟨b, o, none⟩ = W.cell? ⟨b, o, none⟩ :=
 World.cell?_of_block (w := W) (a := ⟨b, o, none⟩) (E.h.block b hb (fun e => hr e.symm))
end Go.Proofs.Ytjmeakfjfpnciaa
namespace Go.Proofs.Ytjmeakfjfpnciaa
open Go.RowKit
def isNilCheck (o : Oper) : Bool := match o.op with | .nilCheck _ => true | _ => false
theorem nilCheck_value {P : Program} {ρ : Operand → Value} {o : Oper} (hp : isNilCheck o = true) {w w' : World} {n : Next} (h : (execOp ρ o).run P w = .ok n w') : ∃ x, n = .value x := by
 unfold isNilCheck at hp
 split at hp
 ·rename_i x hx
  unfold execOp at h
  rw [hx] at h
  simp only at h
  split at h
  all_goals first
   | (simp at h; exact ⟨_, h.1.symm⟩)
   | (simp [runtimePanic] at h; done)
   | skip
  split at h
  ·simp [runtimePanic] at h
  ·rw [Sem.run_bind] at h
   cases hs : Sem.run P program w with
   | halt x w1 => rw [hs] at h; simp [Result.andThen] at h
   | ok pr w1 =>
    rw [hs] at h
    simp only [Result.andThen] at h
    rw [Sem.run_bind] at h
    cases hs2 : Sem.run P (nilAhead (pr.types.size + Made.depth) ‹_› ‹_› ‹_›) w1 with
    | halt x w2 => rw [hs2] at h; simp [Result.andThen] at h
    | ok z w2 =>
     rw [hs2] at h
     simp only [Result.andThen] at h
     split at h
     ·simp [unsupported] at h
     ·simp at h
      exact ⟨_, h.1.symm⟩
  ·simp at h
   exact ⟨_, h.1.symm⟩
 ·cases hp
def easyOp (o : Oper) : Bool := plainOp o || isNilCheck o
theorem easy_value {P : Program} {ρ : Operand → Value} {o : Oper} (hp : easyOp o = true) {w w' : World} {n : Next} (h : (execOp ρ o).run P w = .ok n w') : ∃ x, n = .value x := by
 unfold easyOp at hp
 cases hq : plainOp o with
 | true => exact plain_value hq h
 | false => rw [hq] at hp; exact nilCheck_value (by simpa using hp) h
inductive Tree where
 | done : Tree
 | q : Nat → Tree → Tree
 | a : Nat → Tree → Tree
 | two : Nat → Tree → Nat → Tree → Tree
def Tree.qs : List Nat → Tree → Tree
 | [], t => t
 | i :: l, t => .q i (Tree.qs l t)
def Tree.size : Tree → Nat
 | .done => 0
 | .q _ r => r.size + 1
 | .a _ r => r.size + 1
 | .two _ r _ _ => r.size + 1
def wpTree (P : Program) (ops : Array Oper) (S : World → Prop) (Q : Exit → Act → World → Prop) : Tree → Act → World → Prop
 | .done, a, w => Q .normal a w
 | .q i r, a, w => match ops[i]? with
  | none => False
  | some o => easyOp o = true ∧ wpQuiet P ops S (fun a' => wpTree P ops S Q r a' w) [o] a
 | .a i r, a, w => wpOp P ops Q i (fun a' w' => S w' ∧ wpTree P ops S Q r a' w') a w
 | .two i r j s, a, w => wpOp P ops Q i (fun a' w' => S w' ∧ wpTree P ops S Q r a' w') a w ∧ wpOp P ops Q j (fun a' w' => S w' ∧ wpTree P ops S Q s a' w') a w
def treeB (md : Region.Mode) (ops : Array Oper) : Tree → Array Bool → Bool
 | .done, listed => (Region.ready md ops listed).isEmpty
 | .q i r, listed => (Region.ready md ops listed).contains i && Region.free md ops listed i && treeB md ops r (listed.setIfInBounds i true)
 | .a i r, listed => decide (Region.ready md ops listed = [i]) && treeB md ops r (listed.setIfInBounds i true)
 | .two i r j s, listed => decide (Region.ready md ops listed = [i, j]) && decide (r.size = s.size) && treeB md ops r (listed.setIfInBounds i true) && treeB md ops s (listed.setIfInBounds j true)
section
variable {P : Program} {ops : Array Oper} {S : World → Prop} {Q : Exit → Act → World → Prop}
theorem yieldsIf_easy {o : Oper} {a : Act} {K : Act → Prop} (hp : easyOp o = true) (h : wpQuiet P ops S K [o] a) : ∃ v, YieldsIf P ops S o v a ∧ K (a.put o.dst v) := by
 unfold wpQuiet at h
 by_cases hw : Region.wanted o (yielded ops a.tmps) = true
 ·rw [if_pos hw] at h
  obtain ⟨v, h1, h2⟩ := h
  refine ⟨v, Or.inl ⟨hw, fun w hw' => ?_⟩, h2⟩
  have h3 := h1 w hw'
  unfold Oper.quietAt at h3
  cases hr : (execOp a.eval o).run P w with
  | ok n w1 =>
   obtain ⟨x, rfl⟩ := easy_value hp hr
   rw [hr] at h3
   simp only [Oper.quietUpon] at h3
   rw [h3.1, h3.2]
  | halt x w1 =>
   rw [hr] at h3
   simp only [Oper.quietUpon] at h3
 ·rw [if_neg hw] at h
  exact ⟨undef, Or.inr ⟨by simpa using hw, rfl⟩, h⟩
theorem held_of_tree {md : Region.Mode} (hsel : Region.noSelect ops = true) (hQ : ∀ c a d v w, Q (.panic c) (a.put d v) w → Q (.panic c) a w) :
  ∀ (t : Tree) (listed : Array Bool) (a : Act) (w : World), S w → treeB md ops t listed = true → wpTree P ops S Q t a w → wpAnyH P md ops Q S t.size listed a w
 | .done, listed, a, w, _, hB, h => wpAnyH_done (by simpa [treeB] using hB) h 0
 | .q i r, listed, a, w, hS, hB, h => by
  unfold wpTree at h
  split at h
  ·cases h
  ·rename_i o ho
   obtain ⟨hp, hq⟩ := h
   obtain ⟨v, hy, hK⟩ := yieldsIf_easy hp hq
   simp only [treeB, Bool.and_eq_true] at hB
   exact wpAnyH_take ho hsel hB.1.2 hB.1.1 (fun c a w hq => hQ c a _ _ w hq) hy hS (held_of_tree hsel hQ r _ _ w hS hB.2 hK)
 | .a i r, listed, a, w, hS, hB, h => by
  simp only [treeB, Bool.and_eq_true, decide_eq_true_eq] at hB
  unfold wpTree at h
  refine wpAnyH_all hB.1 (by simp) ?_
  intro j hj
  have hj' : j = i := by simpa using hj
  subst hj'
  exact wpOp_mono (fun a' w' ⟨hS', h'⟩ => ⟨hS', held_of_tree hsel hQ r _ a' w' hS' hB.2 h'⟩) h
 | .two i r j s, listed, a, w, hS, hB, h => by
  simp only [treeB, Bool.and_eq_true, decide_eq_true_eq] at hB
  obtain ⟨⟨⟨h1, h2⟩, h3⟩, h4⟩ := hB
  unfold wpTree at h
  refine wpAnyH_all h1 (by simp) ?_
  intro k hk
  rcases (by simpa using hk : k = i ∨ k = j) with rfl | rfl
  ·exact wpOp_mono (fun a' w' ⟨hS', h'⟩ => ⟨hS', held_of_tree hsel hQ r _ a' w' hS' h3 h'⟩) h.1
  ·exact wpOp_mono (fun a' w' ⟨hS', h'⟩ => ⟨hS', by rw [h2]; exact held_of_tree hsel hQ s _ a' w' hS' h4 h'⟩) h.2
theorem wp_region_tree {id : Nat} {a : Act} {w : World} {l : List Oper} (S : World → Prop) (t : Tree) (hm : P.follows .mixedOrders = true)
  (hB : (Region.noSelect l.toArray && decide (t.size = l.toArray.size) && treeB .any l.toArray t (Array.replicate l.toArray.size false)) = true)
  (hQ : ∀ c a d v w, Q (.panic c) (a.put d v) w → Q (.panic c) a w) (hS : S w.drew) (h : wpTree P l.toArray S Q t a w.drew) : (Code.region id l.toArray true).wp P Q a w := by
 simp only [Bool.and_eq_true, decide_eq_true_eq] at hB
 refine wp_region_held (S := S) hm ?_
 have := held_of_tree hB.1.1 hQ t _ a _ hS hB.2 h
 rw [hB.1.2] at this
 exact this
theorem tree_q {l : List Oper} {i : Nat} {r : Tree} {o : Oper} {a : Act} {w : World} (ho : l[i]? = some o) (hp : easyOp o = true) (h : wpQuiet P l.toArray S (fun a' => wpTree P l.toArray S Q r a' w) [o] a) :
  wpTree P l.toArray S Q (.q i r) a w := by
 unfold wpTree
 rw [List.getElem?_toArray, ho]
 exact ⟨hp, h⟩
theorem tree_a {l : List Oper} {i : Nat} {r : Tree} {o : Oper} {a : Act} {w : World} (ho : l[i]? = some o)
  (h : ∀ K : Act → World → Prop, (∀ a w, S w ∧ wpTree P l.toArray S Q r a w → K a w) → if Region.wanted o (yielded l.toArray a.tmps) = true then Oper.wp P o a w K Q else K (a.put o.dst undef) w) :
  wpTree P l.toArray S Q (.a i r) a w := by
 unfold wpTree
 exact wpOp_step (by rw [List.getElem?_toArray, ho]) h
theorem tree_two {l : List Oper} {i j : Nat} {r s : Tree} {o u : Oper} {a : Act} {w : World} (ho : l[i]? = some o) (hu : l[j]? = some u)
  (h : ∀ K : Act → World → Prop, (∀ a w, S w ∧ wpTree P l.toArray S Q r a w → K a w) → if Region.wanted o (yielded l.toArray a.tmps) = true then Oper.wp P o a w K Q else K (a.put o.dst undef) w)
  (h' : ∀ K : Act → World → Prop, (∀ a w, S w ∧ wpTree P l.toArray S Q s a w → K a w) → if Region.wanted u (yielded l.toArray a.tmps) = true then Oper.wp P u a w K Q else K (a.put u.dst undef) w) :
  wpTree P l.toArray S Q (.two i r j s) a w := by
 unfold wpTree
 exact ⟨wpOp_step (by rw [List.getElem?_toArray, ho]) h, wpOp_step (by rw [List.getElem?_toArray, hu]) h'⟩
theorem tree_end {a : Act} {w : World} (h : Q .normal a w) : wpTree P ops S Q .done a w := h
end
end Go.Proofs.Ytjmeakfjfpnciaa
namespace Go.Proofs.Ytjmeakfjfpnciaa
abbrev BB : Nat := 18446744073709551616
def dig (n i : Nat) : Nat := n / BB ^ i % BB
end Go.Proofs.Ytjmeakfjfpnciaa
namespace Go.Proofs
open Go.Shelf
def Try.lays125_ren : Go.Shelf.Ren := ⟨fun | 125 => 102 | 128 => 156 | 129 => 157 | n => n, fun | 46 => 173 | 3 => 3 | 51 => 221 | 53 => 94 | 4 => 4 | 5 => 5 | 9 => 9 | n => n, fun | n => n⟩
theorem Try.lays125 : Go.Proofs.Lays.n125 Try.prog Try.lays125_ren := {
 mixed := by kernel_rfl
 f125 := Try.func102.trans (congrArg some (by kernel_rfl))
 f128 := Try.func156.trans (congrArg some (by kernel_rfl))
 f129 := Try.func157.trans (congrArg some (by kernel_rfl))
 t3 := Try.underlying3
 a3 := Try.isAgg3
 z3 := Try.sizeOf3
 v3 := Try.zeroValue3
 t4 := Try.underlying4
 a4 := Try.isAgg4
 z4 := Try.sizeOf4
 v4 := Try.zeroValue4
 t5 := Try.underlying5
 a5 := Try.isAgg5
 z5 := Try.sizeOf5
 v5 := Try.zeroValue5
 t9 := Try.underlying9
 a9 := Try.isAgg9
 z9 := Try.sizeOf9
 v9 := Try.zeroValue9
 t46 := Try.underlying173
 a46 := Try.isAgg173
 z46 := Try.sizeOf173
 v46 := Try.zeroValue173
 t51 := Try.underlying221
 a51 := Try.isAgg221
 z51 := Try.sizeOf221
 v51 := Try.zeroValue221
 t53 := Try.underlying94
 a53 := Try.isAgg94
 z53 := Try.sizeOf94
 v53 := Try.zeroValue94 }
theorem Try.bits_Len (x : Int) (w : World) (h0 : 0 ≤ x) (h1 : x ≤ 18446744073709551615) :
  Calls Try.prog 102 #[.int .u64 x] w fun e w' => e = .returned (.int .i64 (Lib.bitLen x.toNat)) ∧ w' = w := Any.bits_Len Try.lays125 x w h0 h1
end Go.Proofs
namespace Go.Proofs.Ytjmeakfjfpnciaa
open Go.RowKit
section
variable {W W' : World} {b c i n : Nat} {t : TypeId} {xs : List Int} {x : Int} {v : Value}
end
def limbV (n : Nat) : Value := .agg #[.int .u64 (dig n 0 : Int), .int .u64 (dig n 1 : Int), .int .u64 (dig n 2 : Int), .int .u64 (dig n 3 : Int)]
end Go.Proofs.Ytjmeakfjfpnciaa
namespace Go.Proofs.Ytjmeakfjfpnciaa
open Go.RowKit
structure RingP where
 m : Nat
 one : Nat
 up : Nat
 low : Nat
end Go.Proofs.Ytjmeakfjfpnciaa
namespace Go.Proofs.Ytjmeakfjfpnciaa
open Go.RowKit
end Go.Proofs.Ytjmeakfjfpnciaa
namespace Go.Proofs.Ytjmeakfjfpnciaa
end Go.Proofs.Ytjmeakfjfpnciaa
namespace Go.Proofs.Ytjmeakfjfpnciaa
open Go.RowKit
end Go.Proofs.Ytjmeakfjfpnciaa
namespace Go.Proofs.Ytjmeakfjfpnciaa
def mont (m x : Nat) : Nat := x * BB ^ 4 % m
end Go.Proofs.Ytjmeakfjfpnciaa
namespace Go.Proofs.Ytjmeakfjfpnciaa
open Go.RowKit
section
variable {P : Program} {ops : Array Oper} {md : Region.Mode} {C : World → Prop} {n g : Nat} {L : Array Bool → Act → Prop} {Q' : Exit → Act → World → Prop}
def headQ (P : Program) (md : Region.Mode) (ops : Array Oper) (C : World → Prop) (n : Nat) (L : Array Bool → Act → Prop) : Nat → Array Bool → Act → Prop
 | 0, listed, a => L listed a
 | f + 1, listed, a => Region.ready md ops listed ≠ [] ∧ ∀ i ∈ Region.ready md ops listed, i < n ∧ qOp P ops C i (headQ P md ops C n L f (listed.setIfInBounds i true)) a
theorem any_of_headQ (hL : ∀ listed a w, C w → L listed a → wpAny P md ops Q' g listed a w) : ∀ (f : Nat) (listed : Array Bool) (a : Act) (w : World), C w → headQ P md ops C n L f listed a → wpAny P md ops Q' (f + g) listed a w
 | 0, listed, a, w, hw, h => by rw [Nat.zero_add]; exact hL _ _ _ hw h
 | f + 1, listed, a, w, hw, h => by
  rw [show f + 1 + g = (f + g) + 1 by omega]
  exact ⟨fun h0 => absurd h0 h.1, fun i hi => wpOp_of_qOp hw (fun a' w' hw' h' => any_of_headQ hL f _ a' w' hw' h') (h.2 i hi).2⟩
theorem headQ_first {i : Nat} {oi : Oper} {v : Value} (hi : ops[i]? = some oi) (hsel : ∀ (j : Nat) (o : Oper) cs b, ops[j]? = some o → o.op ≠ .select cs b)
  (hwait : ∀ listed, HeadInv md ops n listed → ∀ i, i < n → listed.getD i true = false → ∀ t, n ≤ t → t ∉ Region.ready md ops listed) (hin : i < n) (hdone : ∀ listed a, L listed a → ∀ j ∈ Region.ready md ops listed, n ≤ j) :
  ∀ (f : Nat) (listed : Array Bool) (a : Act), HeadInv md ops n listed →
   (∀ j oj, ops[j]? = some oj → j ≠ i → listed.getD j true = false → (∀ e ∈ oj.after, Region.binds md e = true → e.on ≠ i) → oi.apart ops oj = true) →
   i ∈ Region.ready md ops listed → YieldsIn P ops C oi v a → headQ P md ops C n L f (listed.setIfInBounds i true) (a.put oi.dst v) → headQ P md ops C n L (f + 1) listed a := by
 intro f
 induction f with
 | zero =>
  intro listed a inv _ hr hy H
  have hun := (mem_ready.1 hr).1
  refine ⟨fun h => (by rw [h] at hr; cases hr), fun j hj => ?_⟩
  have hjn : j < n := by
   rcases Nat.lt_or_ge j n with h | h
   ·exact h
   ·exact absurd hj (hwait _ inv i hin hun j h)
  refine ⟨hjn, ?_⟩
  by_cases hji : j = i
  ·subst hji; exact hy.qOp hi H
  ·have := hdone _ _ H j (ready_mono hj hji)
   omega
 | succ f ih =>
  intro listed a inv hfree hr hy H
  have hun := (mem_ready.1 hr).1
  refine ⟨fun h => (by rw [h] at hr; cases hr), fun j hj => ?_⟩
  have hjn : j < n := by
   rcases Nat.lt_or_ge j n with h | h
   ·exact h
   ·exact absurd hj (hwait _ inv i hin hun j h)
  refine ⟨hjn, ?_⟩
  by_cases hji : j = i
  ·subst hji; exact hy.qOp hi H
  ·have h1 := (H.2 j (ready_mono hj hji)).2
   obtain ⟨hjun, oj, hoj, hall⟩ := mem_ready.1 hj
   have hnot : ∀ e ∈ oj.after, Region.binds md e = true → e.on ≠ i := fun e he hb heq => by
    have h1 := hall e he hb
    rw [heq, getD_both hun] at h1
    cases h1
   have h2 := qOp_put hoj (hfree j oj hoj hji hjun hnot) (fun cs b => hsel i oi cs b hi) (fun cs b => hsel j oj cs b hoj) hy h1
   have hfree' : ∀ k ok, ops[k]? = some ok → k ≠ i → (listed.setIfInBounds j true).getD k true = false →
     (∀ e ∈ ok.after, Region.binds md e = true → e.on ≠ i) → oi.apart ops ok = true := fun k ok hk hki hun hno => by
    refine hfree k ok hk hki ?_ hno
    by_cases hjk : j = k
    ·subst hjk; exact hjun
    ·rw [getD_set_ne true hjk] at hun; exact hun
   refine qOp_mono (fun a' h3 => ih (listed.setIfInBounds j true) a' (inv.set hj hjn) hfree' (ready_mono hr (Ne.symm hji)) h3.1 ?_) h2
   rw [Array.setIfInBounds_comm _ _ hji]
   exact h3.2
theorem headQ_lex {Lq : Act → Prop} (hsel : Region.noSelect ops = true) (hs : Region.sinkB md ops n = true) (hc : Region.chainB md ops n = true) (hn : n < ops.size) :
  ∀ (l : List Oper) (k : Nat) (listed : Array Bool) (a : Act), (∀ j, j < l.length → l[j]? = ops[k + j]?) → k + l.length = n → HeadInv md ops n listed →
  Region.lexHead md ops g l.length k listed = true → wpQuiet P ops C Lq l a →
  headQ P md ops C n (fun listed' a' => Region.seqB md ops g n listed' = true ∧ Lq a') l.length listed a
 | [], k, listed, a, _, hk, _, hB, h => by
  have : k = n := by simpa using hk
  subst this
  exact ⟨by simpa [Region.lexHead] using hB, h⟩
 | o :: l, k, listed, a, hl, hk, inv, hB, h => by
  have h0 : ops[k]? = some o := by simpa using (hl 0 (by simp)).symm
  simp only [List.length_cons, Region.lexHead, Bool.and_eq_true] at hB
  obtain ⟨⟨hr, hf⟩, hB'⟩ := hB
  have hkn : k < n := by simp only [List.length_cons] at hk; omega
  have hr' : k ∈ Region.ready md ops listed := by simpa using hr
  have hst : qOp P ops C k (wpQuiet P ops C Lq l) a := by unfold qOp; simp only [h0]; exact h
  obtain ⟨v, hy, hK⟩ := yieldsIn_of_qOp h0 hst
  exact headQ_first h0 (Region.noSelect_spec hsel) (fun _ inv i hi hun => tail_waits hs hc hn inv _ i rfl hi hun) hkn (fun listed' a' hL => seqB_ready hL.1) l.length listed a inv (Region.free_spec h0 hf) hr' hy
   (headQ_lex hsel hs hc hn l (k + 1) _ _ (fun j hj => by have := hl (j + 1) (by simp; omega); simpa [Nat.add_assoc, Nat.add_comm 1 j] using this) (by simp only [List.length_cons] at hk; omega) (inv.set hr' hkn) hB' hK)
theorem wp_region_qtail {id : Nat} {Q : Exit → Act → World → Prop} {a : Act} {w : World} {l : List Oper} (n : Nat) (hm : P.follows .mixedOrders = true) (hB : Region.lexTailB .any l.toArray n = true) (hC : C w.drew)
  (h : wpQuiet P l.toArray C (fun a' => ∀ w', C w' → wpList P l.toArray Q (l.drop n) a' w') (l.take n) a) : (Code.region id l.toArray true).wp P Q a w := by
 simp only [Region.lexTailB, Bool.and_eq_true, decide_eq_true_eq] at hB
 obtain ⟨⟨⟨⟨hsel, hn⟩, hs⟩, hc⟩, hlex⟩ := hB
 have hn' : n < l.length := by simpa using hn
 have htl : (l.take n).length = n := by simp; omega
 have hdl : (l.drop n).length = l.toArray.size - n := by simp
 have inv0 : HeadInv .any l.toArray n (Array.replicate l.toArray.size false) :=
  ⟨by simp, fun j oj _ hl => (by rw [getD_replicate_false] at hl; cases hl), fun t _ ht => getD_in (by simpa using ht) (getD_replicate_false _ _)⟩
 have H := headQ_lex (md := .any) (g := l.toArray.size - n) hsel hs hc hn (l.take n) 0 _ a (fun j hj => by
  have hj' : j < n := by rw [htl] at hj; exact hj
  simp [hj']) (by simpa using htl) inv0 (by rw [htl]; exact hlex) h
 refine wp_region_any hm ?_
 have := any_of_headQ (Q' := Q) (g := l.toArray.size - n) (fun listed a' w' hw hL => by
  have := wpAny_of_seq (md := .any) (Q' := Q) (l.drop n) n listed a' w' (fun j => by simp [List.getElem?_drop]) (by rw [hdl]; exact hL.1) (hL.2 w' hw)
  rwa [hdl] at this) _ _ _ _ hC H
 rw [htl, show n + (l.toArray.size - n) = l.toArray.size by omega] at this
 exact this
end
section
variable {P : Program} {ops : Array Oper} {md : Region.Mode} {C S : World → Prop} {n : Nat} {Q : Exit → Act → World → Prop}
end
theorem wp_region_otail {P : Program} {id : Nat} {Q : Exit → Act → World → Prop} {a : Act} {w : World} {l : List Oper} (n : Nat) (hm : P.follows .mixedOrders = true) (hB : Region.lexTailB .any l.toArray n = true)
  (h : wpQuiet P l.toArray (fun w' => ∃ E : Over w, w' = E.w) (fun a' => ∀ w', (∃ E : Over w, w' = E.w) → wpList P l.toArray Q (l.drop n) a' w') (l.take n) a) : (Code.region id l.toArray true).wp P Q a w :=
 wp_region_qtail n hm hB ⟨⟨_, (Below.refl _ _).drew⟩, rfl⟩ h
end Go.Proofs.Ytjmeakfjfpnciaa
namespace Go.Proofs.Ytjmeakfjfpnciaa
open Go.RowKit
end Go.Proofs.Ytjmeakfjfpnciaa
namespace Go.Proofs.Ytjmeakfjfpnciaa
open Go.RowKit
end Go.Proofs.Ytjmeakfjfpnciaa
namespace Go.Proofs.Ytjmeakfjfpnciaa
open Go.RowKit
end Go.Proofs.Ytjmeakfjfpnciaa
namespace Go.Proofs.Ytjmeakfjfpnciaa
open Go.RowKit
theorem infoByte : (Try.prog.info? 5).map (fun i => (i.zero, i.size, i.bytes)) = some (some (.int .u8 0), 1, 1) := by kernel_rfl
def byteAt (a k : Nat) : Nat := a / 256 ^ k % 256
def textL (a size k : Nat) : List Int := (List.range size).map fun p => if size - 1 - p < k then (byteAt a (size - 1 - p) : Int) else 0
def textS (a size : Nat) : ByteArray := strOfNums (textL a size size)
end Go.Proofs.Ytjmeakfjfpnciaa
namespace Go.Proofs.Ytjmeakfjfpnciaa
open Go.RowKit
structure GP where
 kind : Nat
 size : Nat
 p : RingP
 q : RingP
def elV (G : GP) (y : Nat) : Value := limbV (mont G.p.m y)
end Go.Proofs.Ytjmeakfjfpnciaa
namespace Go.Proofs.Ytjmeakfjfpnciaa
open Go.RowKit
end Go.Proofs.Ytjmeakfjfpnciaa
namespace Go.Proofs.Ytjmeakfjfpnciaa
open Go.RowKit
end Go.Proofs.Ytjmeakfjfpnciaa
namespace Go.Proofs.Ytjmeakfjfpnciaa
open Go.RowKit
end Go.Proofs.Ytjmeakfjfpnciaa
namespace Go.Proofs.Ytjmeakfjfpnciaa
open Go.RowKit
end Go.Proofs.Ytjmeakfjfpnciaa
namespace Go.Proofs.Ytjmeakfjfpnciaa
open Go.RowKit
end Go.Proofs.Ytjmeakfjfpnciaa
namespace Go.Proofs.Ytjmeakfjfpnciaa
open Go.RowKit
end Go.Proofs.Ytjmeakfjfpnciaa
namespace Go.Proofs.Ytjmeakfjfpnciaa
section
variable {B : Nat}
end
end Go.Proofs.Ytjmeakfjfpnciaa
namespace Go.Proofs.Ytjmeakfjfpnciaa
open Go.RowKit
end Go.Proofs.Ytjmeakfjfpnciaa
namespace Go.Proofs.Ytjmeakfjfpnciaa
open Go.RowKit
theorem own_form3 {w : World} {base e k n : Nat} {v : Value} {xs : List Value} (h : w.ownsRow base e k v n xs) : ∃ a c, v = .slice a n c ∧ (n = 0 ∨ ∃ g, a = some ⟨g, 0, none⟩ ∧ g < w.heap.size) := by
 rcases h.2 with ⟨hv, h0⟩ | ⟨g, cap, cur, hv, _, hg, _⟩
 ·subst h0; exact ⟨none, 0, hv, Or.inl rfl⟩
 ·exact ⟨_, cap, hv, Or.inr ⟨g, rfl, (Array.getElem?_eq_some_iff.1 hg).1⟩⟩
end Go.Proofs.Ytjmeakfjfpnciaa
namespace Go.Proofs.Ytjmeakfjfpnciaa
open Go.RowKit
end Go.Proofs.Ytjmeakfjfpnciaa
namespace Go.Proofs.Ytjmeakfjfpnciaa
open Go.RowKit
def Bx (W : World) (b : Nat) (t : TypeId) (cs : List Value) : Prop := W.heap[b]? = some (.cells cs.toArray t (0, 0))
section
variable {W W' : World} {b c i n : Nat} {t : TypeId} {cs : List Value} {v : Value}
theorem Bx.lt (h : Bx W b t cs) : b < W.heap.size := (Array.getElem?_eq_some_iff.1 h).1
theorem Bx.cell (h : Bx W b t cs) (hx : cs[i]? = some v) : W.cell? ⟨b, i, none⟩ = some v := by
 simp [World.cell?, show W.heap[b]? = _ from h, hx]
theorem Bx.frozen (h : Bx W b t cs) (i : Nat) : W.frozen? ⟨b, i, none⟩ = false := by
 simp [World.frozen?, show W.heap[b]? = _ from h]
theorem Bx.below (h : Bx W b t cs) (hb : Below n W W') (hn : b < n) : Bx W' b t cs := (hb.block b hn).trans h
theorem Bx.up (h : Bx W b t cs) (hb : Below W.heap.size W W') : Bx W' b t cs := h.below hb h.lt
theorem Bx.alloc (h : Bx W b t cs) (o : Obj) : Bx (W.alloc o) b t cs := (Below.heap_alloc W o b h.lt).trans h
theorem Bx.new (W : World) (t : TypeId) (cs : List Value) (ar : Array Value) (har : ar = cs.toArray) : Bx (W.alloc (.cells ar t)) W.heap.size t cs := by
 subst har; exact heap_alloc_new W _
theorem Bx.set (h : Bx W b t cs) (i : Nat) (v : Value) : Bx (W.setCell ⟨b, i, none⟩ v) b t (cs.set i v) := by
 obtain ⟨hlt, hk⟩ := Array.getElem?_eq_some_iff.1 h
 show (W.heap.modify b _)[b]? = _
 rw [Array.getElem?_eq_getElem (by rw [Array.size_modify]; exact hlt), Array.getElem_modify_self, hk]
 simp
theorem Bx.other (h : Bx W b t cs) (hne : b ≠ c) (i : Nat) (v : Value) : Bx (W.setCell ⟨c, i, none⟩ v) b t cs := (Below.heap_setCell W ⟨c, i, none⟩ v b hne).trans h
end
end Go.Proofs.Ytjmeakfjfpnciaa
namespace Go.Proofs.Ytjmeakfjfpnciaa
open Go.RowKit
def RowO (N : Nat) (w : World) (e : TypeId) (size : Nat) (v : Value) (n : Nat) (xs : List Value) : Prop := w.ownsRow N e size v n xs
section
variable {w w1 : World} {e : TypeId} {N size n m g c : Nat} {v : Value} {xs ys : List Value} {r : Option Nat}
theorem RowO.nil : RowO N w e size (.slice none 0 0) 0 [] := World.ownsRow_nil _ _ _ _
theorem RowO.grown (h : RowO N w e size v n xs) (hg : w.grownBy w1 r) (hne : ∀ q, v.ownBlock = some q → r ≠ some q) : RowO N w1 e size v n xs :=
 World.ownsRow.kept h hg (by cases h9 : v.ownBlock with
  | none => exact Or.inl rfl
  | some q => exact Or.inr (fun e => hne q h9 e.symm))
theorem RowO.up (h : RowO N w e size v n xs) (hb : Below w.heap.size w w1) : RowO N w1 e size v n xs := h.grown (below_grown hb) (fun q _ => by simp)
theorem RowO.lt (h : RowO N w e size v n xs) (q : Nat) (hq : v.ownBlock = some q) : N ≤ q ∧ q < w.heap.size := World.ownsRow.lt h q hq
theorem RowO.other (h : RowO N w e size v n xs) (hne : v.ownBlock ≠ some c) (i : Nat) (u : Value) : RowO N (w.setCell ⟨c, i, none⟩ u) e size v n xs := by
 refine h.grown (r := some c) ⟨rfl, rfl, rfl, by simp [World.setCell], fun k _ hk => ?_⟩ (fun q hq e => hne (by rw [hq, e]))
 exact Below.heap_setCell w ⟨c, i, none⟩ u k (by intro e; exact hk (by rw [e]))
theorem RowO.form (h : RowO N w e size v n xs) : ∃ a c, v = .slice a n c := let ⟨a, c, h1, _⟩ := own_form3 h; ⟨a, c, h1⟩
theorem RowO.eq (h : RowO N w e size v n xs) (hx : xs = ys) (hn : n = m) : RowO N w e size v m ys := by subst hx; subst hn; exact h
theorem RowO.sl {a : Option Addr} {k : Nat} (h : RowO N w e size (.slice a k c) n xs) : Sl w w.heap.size a xs := by
 rcases h.2 with ⟨hv, h0⟩ | ⟨g, cap, cur, hv, hb, hg, hr⟩
 ·have := h.1; subst h0; left; exact List.length_eq_zero_iff.1 (by simpa using this)
 ·simp only [Value.slice.injEq] at hv
  obtain ⟨rfl, rfl, rfl⟩ := hv
  refine Or.inr ⟨g, 0, rfl, (Array.getElem?_eq_some_iff.1 hg).1, fun i u hu => ?_⟩
  have hi : i < k * size := by have := (List.getElem?_eq_some_iff.1 hu).1; rw [h.1] at this; exact this
  rw [Nat.zero_add, World.ownsRow.cellAt h i hi]; exact hu
theorem Bx.grown {t : TypeId} {b : Nat} {cs : List Value} (h : Bx w b t cs) (hg : w.grownBy w1 r) (hne : r ≠ some b) : Bx w1 b t cs := (hg.block b h.lt (fun e => hne e.symm)).trans h
theorem cell_of_block {b : Nat} (h : w1.heap[b]? = w.heap[b]?) (o : Nat) : w1.cell? ⟨b, o, none⟩ = w.cell? ⟨b, o, none⟩ := by
 simp only [World.cell?, h]
theorem grown_set (w : World) (b i : Nat) (u : Value) : w.grownBy (w.setCell ⟨b, i, none⟩ u) (some b) :=
 ⟨rfl, rfl, rfl, by simp [World.setCell], fun k _ hk => Below.heap_setCell w ⟨b, i, none⟩ u k (by intro e; exact hk (by rw [e]))⟩
end
theorem wpList_pushR {P : Program} (N : Nat) (w0 : World) (hN : N ≤ w0.heap.size) {ops : Array Oper} {rest : List Oper} {o : Oper} {a : Act} {Q : Exit → Act → World → Prop} (hgd : o.guard = none) (s x : Operand) (t : TypeId)
  (ho : o.op = .call { callee := .builtin .append, args := #[s, x], argTypes := #[t, t] })
  (e : TypeId) (i : TypeInfo) (z : Value) (size bytes : Nat) (ht : P.underlying t = some (.slice e)) (hi : P.info? e = some i) (hz : i.zero = some z)
  (hsize : i.size = size) (hby : i.bytes = bytes) (hzs : z.cells.size = size) (hsz : 0 < size)
  (v : Value) (n : Nat) (xs : List Value) (hs : a.eval s = v) (hown : RowO N w0 e size v n xs)
  (news : Array Value) (e2 : TypeId) (b : Nat) (hb : w0.heap.size = b) (hx : a.eval x = .slice (some ⟨b, 0, none⟩) 1 1) (hl : news.size = size) (h1 : ∀ u ∈ news.toList, u.oneCell' = true)
  (h63 : (n + 1) * bytes ≤ 140737488355328) (hn : n + 1 ≤ maxLen)
  (h : ∀ g cap w', RowO N w' e size (.slice (some ⟨g, 0, none⟩) (n + 1) cap) (n + 1) (xs ++ news.toList) → w0.grownBy w' v.ownBlock → wpList P ops Q rest (a.put o.dst (.slice (some ⟨g, 0, none⟩) (n + 1) cap)) w') :
  wpList P ops Q (o :: rest) a (w0.alloc (.cells news e2)) := by
 subst hb
 refine wpList_append_lies _ hgd s x t ho N e i z size bytes ht hi hz hsize hby hzs hsz v n xs hs (World.ownsRow.alloc hown _) ⟨w0.heap.size, 0, none⟩ 1 1 news.toList hx (by simpa using hl)
  (World.news_of_block (heap_alloc_new w0 _)) h1 (by omega) hn h63 (by simp; omega) _ rfl ?_
 intro g cap w' hown' hg _ _
 refine h g cap w' hown' ⟨hg.os, hg.tape, hg.output, ?_, ?_⟩
 ·have := hg.size; simp at this; omega
 ·intro k hk hne
  rw [hg.block k (by simp; omega) hne]
  exact Below.heap_alloc _ _ _ hk
theorem Sl.app_left {w : World} {B : Nat} {a : Option Addr} {xs ys : List Value} (h : Sl w B a (xs ++ ys)) : Sl w B a xs := by
 rcases h with h | ⟨b, off, rfl, hb, hc⟩
 ·left; exact (List.append_eq_nil_iff.1 h).1
 ·exact Or.inr ⟨b, off, rfl, hb, fun i v hv => hc i v (by rw [List.getElem?_append_left (List.getElem?_eq_some_iff.1 hv).1]; exact hv)⟩
theorem flat_at {α : Type} (f : α → List Value) (k : Nat) (hk : ∀ x, (f x).length = k) : ∀ (l : List α) (i j : Nat) (hi : i < l.length) (_ : j < k), (l.flatMap f)[i * k + j]? = (f l[i])[j]?
 | [], i, _, hi, _ => absurd hi (by simp)
 | x :: l, 0, j, _, hj => by
  rw [List.flatMap_cons, Nat.zero_mul, Nat.zero_add, List.getElem?_append_left (by rw [hk]; exact hj)]
  rfl
 | x :: l, i + 1, j, hi, hj => by
  rw [List.flatMap_cons, List.getElem?_append_right (by rw [hk, Nat.add_mul]; omega), hk, show (i + 1) * k + j - k = i * k + j by rw [Nat.add_mul]; omega]
  exact flat_at f k hk l i j (by simpa using hi) hj
theorem flat_len {α : Type} (f : α → List Value) (k : Nat) (hk : ∀ x, (f x).length = k) (l : List α) : (l.flatMap f).length = l.length * k := by
 induction l with
 | nil => simp
 | cons x l ih => rw [List.flatMap_cons, List.length_append, hk, ih, List.length_cons, Nat.add_mul]; omega
theorem flat_snoc {α : Type} (f : α → List Value) (l : List α) (i : Nat) (hi : i < l.length) : (l.take (i + 1)).flatMap f = (l.take i).flatMap f ++ f l[i] := by
 rw [List.take_succ_eq_append_getElem hi, List.flatMap_append]
 simp
theorem Sl.elem {w : World} {B : Nat} {a : Option Addr} {α : Type} {f : α → List Value} {k : Nat} {l : List α} (h : Sl w B a (l.flatMap f)) (hk : ∀ x, (f x).length = k) (h0 : 0 < k) (i : Nat) (hi : i < l.length) :
  ∃ b off, a = some ⟨b, off, none⟩ ∧ b < B ∧ ∀ j v, (f l[i])[j]? = some v → w.cell? ⟨b, off + i * k + j, none⟩ = some v := by
 rcases h with h | ⟨b, off, rfl, hb, hc⟩
 ·have := flat_len f k hk l
  rw [h, List.length_nil] at this
  have : 0 < l.length * k := Nat.mul_pos (by omega) h0
  omega
 ·exact ⟨b, off, rfl, hb, fun j v hv => by rw [Nat.add_assoc]; exact hc _ _ (by rw [flat_at f k hk l i j hi (by have := (List.getElem?_eq_some_iff.1 hv).1; rw [hk] at this; exact this)]; exact hv)⟩
end Go.Proofs.Ytjmeakfjfpnciaa
namespace Go.Proofs.Ytjmeakfjfpnciaa
open Go.RowKit
section
variable {W w0 : World} {b n : Nat} {t : TypeId} {cs cs' : List Value} {a0 a1 a2 a3 a4 a5 a6 a7 : Value}
theorem Bx.c1 (h : Bx W b t [a0]) : W.cell? ⟨b, 0, none⟩ = some a0 := h.cell (i := 0) rfl
theorem Bx.c2 (h : Bx W b t [a0, a1]) : W.cell? ⟨b, 0, none⟩ = some a0 ∧ W.cell? ⟨b, 1, none⟩ = some a1 := ⟨h.cell (i := 0) rfl, h.cell (i := 1) rfl⟩
theorem Bx.c3 (h : Bx W b t [a0, a1, a2]) : W.cell? ⟨b, 0, none⟩ = some a0 ∧ W.cell? ⟨b, 1, none⟩ = some a1 ∧ W.cell? ⟨b, 2, none⟩ = some a2 := ⟨h.cell (i := 0) rfl, h.cell (i := 1) rfl, h.cell (i := 2) rfl⟩
theorem Bx.c4 (h : Bx W b t [a0, a1, a2, a3]) : W.cell? ⟨b, 0, none⟩ = some a0 ∧ W.cell? ⟨b, 1, none⟩ = some a1 ∧ W.cell? ⟨b, 2, none⟩ = some a2 ∧ W.cell? ⟨b, 3, none⟩ = some a3 := ⟨h.cell (i := 0) rfl, h.cell (i := 1) rfl, h.cell (i := 2) rfl, h.cell (i := 3) rfl⟩
theorem Bx.c8 (h : Bx W b t [a0, a1, a2, a3, a4, a5, a6, a7]) : W.cell? ⟨b, 0, none⟩ = some a0 ∧ W.cell? ⟨b, 1, none⟩ = some a1 ∧ W.cell? ⟨b, 2, none⟩ = some a2 ∧ W.cell? ⟨b, 3, none⟩ = some a3 ∧ W.cell? ⟨b, 4, none⟩ = some a4 ∧ W.cell? ⟨b, 5, none⟩ = some a5 ∧ W.cell? ⟨b, 6, none⟩ = some a6 ∧ W.cell? ⟨b, 7, none⟩ = some a7 := ⟨h.cell (i := 0) rfl, h.cell (i := 1) rfl, h.cell (i := 2) rfl, h.cell (i := 3) rfl, h.cell (i := 4) rfl, h.cell (i := 5) rfl, h.cell (i := 6) rfl, h.cell (i := 7) rfl⟩
theorem sz {p q : Prop} (a : Hid p) (b : q) : Hid (p ∧ q) := Lib.hid ⟨a.out, b⟩
theorem sne {a b : Nat} (h : b ≠ a) : some a ≠ some b := fun e => h (Option.some.inj e).symm
theorem hbu {W w w1 : World} (h : Hid (Below W.heap.size W w)) (g : Below w.heap.size w w1) : Hid (Below W.heap.size W w1) := Lib.hid (below_up h.out g)
theorem hbg {W w w1 : World} {b : Nat} (h : Hid (Below W.heap.size W w)) (g : Hid (w.grownBy w1 (some b))) (hb : W.heap.size ≤ b) : Hid (Below W.heap.size W w1) := Lib.hid (Below.grown h.out g.out h.out.size (fun _ e => (Option.some.inj e) ▸ hb))
theorem new1 (w : World) (t0 : TypeId) (c0 : List Value) : ∃ W, w.alloc (Obj.cells c0.toArray t0) = W ∧ Below w.heap.size w W ∧ Hid (W.heap.size = w.heap.size + 1) ∧ Hid (Bx W w.heap.size t0 c0) := by
 refine ⟨_, rfl, ((Below.refl _ _).alloc (Nat.le_refl _) _), Lib.hid (by simp), ?_⟩
 ·have h := (Bx.new w t0 c0 _ rfl)
  exact Lib.hid h
theorem new2 (w : World) (t0 : TypeId) (c0 : List Value) (t1 : TypeId) (c1 : List Value) : ∃ W, (w.alloc (Obj.cells c0.toArray t0)).alloc (Obj.cells c1.toArray t1) = W ∧ Below w.heap.size w W ∧ Hid (W.heap.size = w.heap.size + 2) ∧ Hid (Bx W w.heap.size t0 c0) ∧ Hid (Bx W (w.heap.size + 1) t1 c1) := by
 refine ⟨_, rfl, (((Below.refl _ _).alloc (Nat.le_refl _) _).alloc (by simp) _), Lib.hid (by simp), ?_, ?_⟩
 ·have h := ((Bx.new w t0 c0 _ rfl).alloc (Obj.cells c1.toArray t1))
  exact Lib.hid h
 ·have h := (Bx.new (w.alloc (Obj.cells c0.toArray t0)) t1 c1 _ rfl)
  rw [World.size_alloc] at h
  exact Lib.hid h
theorem new3 (w : World) (t0 : TypeId) (c0 : List Value) (t1 : TypeId) (c1 : List Value) (t2 : TypeId) (c2 : List Value) : ∃ W, ((w.alloc (Obj.cells c0.toArray t0)).alloc (Obj.cells c1.toArray t1)).alloc (Obj.cells c2.toArray t2) = W ∧ Below w.heap.size w W ∧ Hid (W.heap.size = w.heap.size + 3) ∧ Hid (Bx W w.heap.size t0 c0) ∧ Hid (Bx W (w.heap.size + 1) t1 c1) ∧ Hid (Bx W (w.heap.size + 2) t2 c2) := by
 refine ⟨_, rfl, ((((Below.refl _ _).alloc (Nat.le_refl _) _).alloc (by simp) _).alloc (by simp; omega) _), Lib.hid (by simp), ?_, ?_, ?_⟩
 ·have h := (((Bx.new w t0 c0 _ rfl).alloc (Obj.cells c1.toArray t1)).alloc (Obj.cells c2.toArray t2))
  exact Lib.hid h
 ·have h := ((Bx.new (w.alloc (Obj.cells c0.toArray t0)) t1 c1 _ rfl).alloc (Obj.cells c2.toArray t2))
  rw [World.size_alloc] at h
  exact Lib.hid h
 ·have h := (Bx.new ((w.alloc (Obj.cells c0.toArray t0)).alloc (Obj.cells c1.toArray t1)) t2 c2 _ rfl)
  rw [World.size_alloc, World.size_alloc] at h
  exact Lib.hid h
theorem new4 (w : World) (t0 : TypeId) (c0 : List Value) (t1 : TypeId) (c1 : List Value) (t2 : TypeId) (c2 : List Value) (t3 : TypeId) (c3 : List Value) : ∃ W, (((w.alloc (Obj.cells c0.toArray t0)).alloc (Obj.cells c1.toArray t1)).alloc (Obj.cells c2.toArray t2)).alloc (Obj.cells c3.toArray t3) = W ∧ Below w.heap.size w W ∧ Hid (W.heap.size = w.heap.size + 4) ∧ Hid (Bx W w.heap.size t0 c0) ∧ Hid (Bx W (w.heap.size + 1) t1 c1) ∧ Hid (Bx W (w.heap.size + 2) t2 c2) ∧ Hid (Bx W (w.heap.size + 3) t3 c3) := by
 refine ⟨_, rfl, (((((Below.refl _ _).alloc (Nat.le_refl _) _).alloc (by simp) _).alloc (by simp; omega) _).alloc (by simp; omega) _), Lib.hid (by simp), ?_, ?_, ?_, ?_⟩
 ·have h := ((((Bx.new w t0 c0 _ rfl).alloc (Obj.cells c1.toArray t1)).alloc (Obj.cells c2.toArray t2)).alloc (Obj.cells c3.toArray t3))
  exact Lib.hid h
 ·have h := (((Bx.new (w.alloc (Obj.cells c0.toArray t0)) t1 c1 _ rfl).alloc (Obj.cells c2.toArray t2)).alloc (Obj.cells c3.toArray t3))
  rw [World.size_alloc] at h
  exact Lib.hid h
 ·have h := ((Bx.new ((w.alloc (Obj.cells c0.toArray t0)).alloc (Obj.cells c1.toArray t1)) t2 c2 _ rfl).alloc (Obj.cells c3.toArray t3))
  rw [World.size_alloc, World.size_alloc] at h
  exact Lib.hid h
 ·have h := (Bx.new (((w.alloc (Obj.cells c0.toArray t0)).alloc (Obj.cells c1.toArray t1)).alloc (Obj.cells c2.toArray t2)) t3 c3 _ rfl)
  rw [World.size_alloc, World.size_alloc, World.size_alloc] at h
  exact Lib.hid h
theorem put1 (h : Hid (Bx W b t cs)) (o0 : Nat) (v0 : Value) (cs' : List Value) (hc : (cs.set o0 v0) = cs') : ∃ W', (W.setCell ⟨b, o0, none⟩ v0) = W' ∧ Hid (W.grownBy W' (some b)) ∧ Hid (W'.heap.size = W.heap.size) ∧ Hid (Bx W' b t cs') :=
 ⟨_, rfl, Lib.hid (grown_set W b o0 v0), Lib.hid (by simp [World.setCell]), Lib.hid (hc ▸ (h.out.set o0 v0))⟩
theorem put2 (h : Hid (Bx W b t cs)) (o0 : Nat) (v0 : Value) (o1 : Nat) (v1 : Value) (cs' : List Value) (hc : ((cs.set o0 v0).set o1 v1) = cs') : ∃ W', ((W.setCell ⟨b, o0, none⟩ v0).setCell ⟨b, o1, none⟩ v1) = W' ∧ Hid (W.grownBy W' (some b)) ∧ Hid (W'.heap.size = W.heap.size) ∧ Hid (Bx W' b t cs') :=
 ⟨_, rfl, Lib.hid ((grown_set W b o0 v0).trans (grown_set (W.setCell ⟨b, o0, none⟩ v0) b o1 v1)), Lib.hid (by simp [World.setCell]), Lib.hid (hc ▸ ((h.out.set o0 v0).set o1 v1))⟩
theorem put4 (h : Hid (Bx W b t cs)) (o0 : Nat) (v0 : Value) (o1 : Nat) (v1 : Value) (o2 : Nat) (v2 : Value) (o3 : Nat) (v3 : Value) (cs' : List Value) (hc : ((((cs.set o0 v0).set o1 v1).set o2 v2).set o3 v3) = cs') : ∃ W', ((((W.setCell ⟨b, o0, none⟩ v0).setCell ⟨b, o1, none⟩ v1).setCell ⟨b, o2, none⟩ v2).setCell ⟨b, o3, none⟩ v3) = W' ∧ Hid (W.grownBy W' (some b)) ∧ Hid (W'.heap.size = W.heap.size) ∧ Hid (Bx W' b t cs') :=
 ⟨_, rfl, Lib.hid ((((grown_set W b o0 v0).trans (grown_set (W.setCell ⟨b, o0, none⟩ v0) b o1 v1)).trans (grown_set ((W.setCell ⟨b, o0, none⟩ v0).setCell ⟨b, o1, none⟩ v1) b o2 v2)).trans (grown_set (((W.setCell ⟨b, o0, none⟩ v0).setCell ⟨b, o1, none⟩ v1).setCell ⟨b, o2, none⟩ v2) b o3 v3)), Lib.hid (by simp [World.setCell]), Lib.hid (hc ▸ ((((h.out.set o0 v0).set o1 v1).set o2 v2).set o3 v3))⟩
end
end Go.Proofs.Ytjmeakfjfpnciaa
namespace Go.Proofs.Ytjmeakfjfpnciaa
end Go.Proofs.Ytjmeakfjfpnciaa
namespace Go.Proofs.Ytjmeakfjfpnciaa
def down : Nat → Nat → Nat → Nat
 | 0, _, _ => 1
 | k + 1, lo, d => if 2 ^ (k + 1) ≤ d ∧ lo % 2 ^ (k + 1) = 0 then 2 ^ (k + 1) else down k lo d
theorem down_pow (lo d : Nat) : ∀ k, ∃ j, j ≤ k ∧ down k lo d = 2 ^ j
 | 0 => ⟨0, Nat.le_refl _, rfl⟩
 | k + 1 => by
  rw [down]
  split
  ·exact ⟨k + 1, Nat.le_refl _, rfl⟩
  ·obtain ⟨j, h1, h2⟩ := down_pow lo d k
   exact ⟨j, by omega, h2⟩
theorem down_le (lo d : Nat) (hd : 1 ≤ d) : ∀ k, down k lo d ≤ d
 | 0 => hd
 | k + 1 => by
  rw [down]
  split
  ·next h => exact h.1
  ·exact down_le lo d hd k
theorem down_pos (lo d k : Nat) : 1 ≤ down k lo d := by
 obtain ⟨j, _, h⟩ := down_pow lo d k
 rw [h]
 exact Nat.one_le_two_pow
theorem down_eq (lo d j : Nat) (h1 : 2 ^ j ≤ d) (h2 : lo % 2 ^ j = 0) (h3 : ∀ i, j < i → ¬ (2 ^ i ≤ d ∧ lo % 2 ^ i = 0)) : ∀ k, j ≤ k → down k lo d = 2 ^ j
 | 0, h => by
  have : j = 0 := by omega
  subst this; rfl
 | k + 1, h => by
  rw [down]
  by_cases e : j = k + 1
  ·subst e
   rw [if_pos ⟨h1, h2⟩]
  ·rw [if_neg (h3 (k + 1) (by omega))]
   exact down_eq lo d j h1 h2 h3 k (by omega)
theorem land_compl (w m : Nat) (h : m < 2 ^ w) : m &&& (2 ^ w - (m + 1)) = 0 := by
 apply Nat.eq_of_testBit_eq
 intro i
 rw [Nat.testBit_and, Nat.testBit_two_pow_sub_succ h, Nat.zero_testBit]
 cases m.testBit i <;> simp
theorem low_bit : ∀ (w n : Nat), 0 < n → n < 2 ^ w → ∃ t, n &&& (2 ^ w - n) = 2 ^ t ∧ n % 2 ^ t = 0 ∧ n % 2 ^ (t + 1) ≠ 0
 | 0, n, h0, h1 => by simp at h1; omega
 | w + 1, n, h0, h1 => by
  rw [Nat.pow_succ] at h1
  rcases Nat.mod_two_eq_zero_or_one n with h | h
  ·obtain ⟨m, rfl⟩ : ∃ m, n = 2 * m := ⟨n / 2, by omega⟩
   obtain ⟨t, e1, e2, e3⟩ := low_bit w m (by omega) (by omega)
   have k : 2 ^ (w + 1) - 2 * m = 2 * (2 ^ w - m) := by rw [Nat.pow_succ]; omega
   refine ⟨t + 1, ?_, ?_, ?_⟩
   ·rw [k]
    have hd : (2 * m &&& 2 * (2 ^ w - m)) / 2 = 2 ^ t := by
     rw [Nat.and_div_two, Nat.mul_div_cancel_left _ (by omega), Nat.mul_div_cancel_left _ (by omega), e1]
    have hm : (2 * m &&& 2 * (2 ^ w - m)) % 2 = 0 := by
     have := Nat.and_mod_two_pow (a := 2 * m) (b := 2 * (2 ^ w - m)) (n := 1)
     simp at this
     omega
    rw [Nat.pow_succ]; omega
   ·rw [Nat.pow_succ, Nat.mul_comm (2 ^ t) 2, Nat.mul_mod_mul_left, e2]
   ·rw [Nat.pow_succ, Nat.mul_comm (2 ^ (t + 1)) 2, Nat.mul_mod_mul_left]
    omega
  ·obtain ⟨m, rfl⟩ : ∃ m, n = 2 * m + 1 := ⟨n / 2, by omega⟩
   have k : 2 ^ (w + 1) - (2 * m + 1) = 2 * (2 ^ w - (m + 1)) + 1 := by rw [Nat.pow_succ]; omega
   refine ⟨0, ?_, by simp [Nat.mod_one], by rw [Nat.zero_add, Nat.pow_one]; omega⟩
   rw [k]
   have hd : ((2 * m + 1) &&& (2 * (2 ^ w - (m + 1)) + 1)) / 2 = 0 := by
    rw [Nat.and_div_two, show (2 * m + 1) / 2 = m by omega, show (2 * (2 ^ w - (m + 1)) + 1) / 2 = 2 ^ w - (m + 1) by omega]
    exact land_compl w m (by omega)
   have hm : ((2 * m + 1) &&& (2 * (2 ^ w - (m + 1)) + 1)) % 2 = 1 := by
    have := Nat.and_mod_two_pow (a := 2 * m + 1) (b := 2 * (2 ^ w - (m + 1)) + 1) (n := 1)
    rw [show (2 : Nat) ^ 1 = 2 from rfl, show (2 * m + 1) % 2 = 1 by omega, show (2 * (2 ^ w - (m + 1)) + 1) % 2 = 1 by omega] at this
    exact this.trans (by decide)
   rw [Nat.pow_zero]; omega
theorem bitLenAux_ok : ∀ (f x : Nat), x < 2 ^ f → x < 2 ^ Lib.bitLenAux f x ∧ (0 < x → 2 ^ Lib.bitLenAux f x ≤ 2 * x)
 | 0, x, h => by simp at h; subst h; simp [Lib.bitLenAux]
 | f + 1, x, h => by
  rw [Nat.pow_succ] at h
  rw [Lib.bitLenAux]
  split
  ·next e => subst e; simp
  ·next e =>
   obtain ⟨a, b⟩ := bitLenAux_ok f (x / 2) (by omega)
   rw [Nat.add_comm 1, Nat.pow_succ]
   refine ⟨by omega, fun _ => ?_⟩
   by_cases hx : x / 2 = 0
   ·rw [hx]
    have : Lib.bitLenAux f 0 = 0 := by cases f <;> simp [Lib.bitLenAux]
    rw [this]; simp; omega
   ·have := b (by omega)
    omega
theorem bitLen_ok (x : Nat) (h0 : 0 < x) (h : x < 2 ^ 64) : 1 ≤ Lib.bitLen x ∧ 2 ^ (Lib.bitLen x - 1) ≤ x ∧ x < 2 ^ Lib.bitLen x := by
 obtain ⟨a, b⟩ := bitLenAux_ok 64 x h
 have hb := b h0
 have h1 : 1 ≤ Lib.bitLen x := by
  rcases Nat.eq_zero_or_pos (Lib.bitLen x) with e | e
  ·have a' : x < 2 ^ Lib.bitLen x := a
   rw [e] at a'; simp at a'; omega
  ·exact e
 refine ⟨h1, ?_, a⟩
 obtain ⟨k, hk⟩ : ∃ k, Lib.bitLen x = k + 1 := ⟨Lib.bitLen x - 1, by omega⟩
 have hb' : 2 ^ Lib.bitLen x ≤ 2 * x := hb
 rw [hk, Nat.pow_succ] at hb'
 rw [hk]; simp; omega
theorem bitLen_le (x k : Nat) (h0 : 0 < x) (h : x < 2 ^ k) (hk : k ≤ 64) : Lib.bitLen x ≤ k := by
 have h64 : x < 2 ^ 64 := Nat.lt_of_lt_of_le h (Nat.pow_le_pow_right (by omega) hk)
 obtain ⟨a, b, _⟩ := bitLen_ok x h0 h64
 have : 2 ^ (Lib.bitLen x - 1) < 2 ^ k := Nat.lt_of_le_of_lt b h
 have := (Nat.pow_lt_pow_iff_right (a := 2) (by omega)).1 this
 omega
theorem pow_mod_mono (lo i j : Nat) (h : j ≤ i) (hi : lo % 2 ^ i = 0) : lo % 2 ^ j = 0 := by
 have hd : 2 ^ j ∣ 2 ^ i := Nat.pow_dvd_pow 2 h
 exact Nat.mod_eq_zero_of_dvd (Nat.dvd_trans hd (Nat.dvd_of_mod_eq_zero hi))
theorem piece_zero (d : Nat) (h0 : 0 < d) (hd : d ≤ 1048576) : down 20 0 d = 2 ^ (Lib.bitLen d - 1) := by
 obtain ⟨a, b, c⟩ := bitLen_ok d h0 (by omega)
 have hle := bitLen_le d 21 h0 (by omega) (by omega)
 refine down_eq 0 d _ b (by simp) (fun i hi h => ?_) 20 (by omega)
 have : 2 ^ Lib.bitLen d ≤ 2 ^ i := Nat.pow_le_pow_right (by omega) (by omega)
 omega
theorem piece_more (lo d : Nat) (h0 : 0 < d) (hd : d ≤ 1048576) (hl : 0 < lo) (hl2 : lo < 2 ^ 64) : down 20 lo d = min (2 ^ (Lib.bitLen d - 1)) (lo &&& (2 ^ 64 - lo)) := by
 obtain ⟨a, b, c⟩ := bitLen_ok d h0 (by omega)
 have hle := bitLen_le d 21 h0 (by omega) (by omega)
 obtain ⟨t, e1, e2, e3⟩ := low_bit 64 lo hl hl2
 rw [e1]
 by_cases h : Lib.bitLen d - 1 ≤ t
 ·have hm : min (2 ^ (Lib.bitLen d - 1)) (2 ^ t) = 2 ^ (Lib.bitLen d - 1) := Nat.min_eq_left (Nat.pow_le_pow_right (by omega) h)
  rw [hm]
  refine down_eq lo d _ b (pow_mod_mono lo t _ h e2) (fun i hi hh => ?_) 20 (by omega)
  have : 2 ^ Lib.bitLen d ≤ 2 ^ i := Nat.pow_le_pow_right (by omega) (by omega)
  omega
 ·have hm : min (2 ^ (Lib.bitLen d - 1)) (2 ^ t) = 2 ^ t := Nat.min_eq_right (Nat.pow_le_pow_right (by omega) (by omega))
  rw [hm]
  refine down_eq lo d _ (Nat.le_trans (Nat.pow_le_pow_right (by omega) (by omega)) b) e2 (fun i hi hh => ?_) 20 (by omega)
  exact e3 (pow_mod_mono lo i (t + 1) (by omega) hh.2)
def parts : Nat → Nat → Nat → List (Int × Int)
 | 0, _, _ => []
 | f + 1, lo, hi => if lo < hi then ((lo : Int), ((lo + down 20 lo (hi - lo) : Nat) : Int)) :: parts f (lo + down 20 lo (hi - lo)) hi else []
theorem parts_fuel : ∀ (f g lo hi : Nat), hi - lo ≤ f → hi - lo ≤ g → parts f lo hi = parts g lo hi
 | 0, 0, _, _, _, _ => rfl
 | 0, g + 1, lo, hi, h1, _ => by rw [parts, parts, if_neg (by omega)]
 | f + 1, 0, lo, hi, _, h2 => by rw [parts, parts, if_neg (by omega)]
 | f + 1, g + 1, lo, hi, h1, h2 => by
  rw [parts, parts]
  split
  ·have := down_pos lo (hi - lo) 20
   rw [parts_fuel f g _ hi (by omega) (by omega)]
  ·rfl
def cover (lo hi : Nat) : List (Int × Int) := parts (hi - lo) lo hi
theorem cover_none (lo hi : Nat) (h : hi ≤ lo) : cover lo hi = [] := by
 rw [cover, show hi - lo = 0 by omega]; rfl
theorem cover_some (lo hi : Nat) (h : lo < hi) : cover lo hi = ((lo : Int), ((lo + down 20 lo (hi - lo) : Nat) : Int)) :: cover (lo + down 20 lo (hi - lo)) hi := by
 obtain ⟨k, hk⟩ : ∃ k, hi - lo = k + 1 := ⟨hi - lo - 1, by omega⟩
 have := down_pos lo (hi - lo) 20
 rw [cover, cover, hk, parts, if_pos h, ← hk, parts_fuel k (hi - (lo + down 20 lo (hi - lo))) _ hi (by omega) (by omega)]
theorem parts_length : ∀ (f lo hi : Nat), (parts f lo hi).length ≤ f
 | 0, _, _ => by simp [parts]
 | f + 1, lo, hi => by
  rw [parts]
  split
  ·simpa using parts_length f _ hi
  ·simp
theorem cover_length (lo hi : Nat) : (cover lo hi).length ≤ hi - lo := parts_length _ _ _
end Go.Proofs.Ytjmeakfjfpnciaa
namespace Go.Proofs.Ytjmeakfjfpnciaa
structure Pc where
 lo : Nat
 hi : Nat
 d : ByteArray
def halves (a b : Pc) : Bool := decide (b.hi - b.lo = a.hi - a.lo) && decide (a.lo % (2 * (b.hi - b.lo)) = 0)
section
variable (H : ByteArray → ByteArray → ByteArray)
def both (a b : Pc) : Pc := ⟨a.lo, b.hi, H a.d b.d⟩
def mergeH : List Pc → Pc → List Pc
 | [], s => [s]
 | t :: r, s => if halves t s = true then mergeH r (both H t s) else s :: t :: r
def heapH (st l : List Pc) : List Pc := l.foldl (mergeH H) st
def leftH (l : List Pc) : List Pc := (heapH H [] l).reverse
theorem heapH_append (st l m : List Pc) : heapH H st (l ++ m) = heapH H (heapH H st l) m := List.foldl_append ..
theorem heapH_none : ∀ (l : List Pc) (st : List Pc), (∀ t ∈ st.head?, ∀ x ∈ l.head?, halves t x = false) → (∀ j (h : j + 1 < l.length), halves l[j] l[j + 1] = false) → heapH H st l = l.reverse ++ st
 | [], st, _, _ => rfl
 | x :: l, st, h1, h2 => by
  have e : mergeH H st x = x :: st := by
   cases st with
   | nil => rfl
   | cons t r => rw [mergeH, if_neg (by rw [h1 t rfl x rfl]; decide)]
  show heapH H (mergeH H st x) l = _
  rw [e, heapH_none l (x :: st) ?_ (fun j h => h2 (j + 1) (by simpa using h))]
  ·simp
  ·intro t ht y hy
   cases ht
   cases l with
   | nil => cases hy
   | cons z l => cases hy; exact h2 0 (by simp)
def PairR (l : List Pc) (r : Int) : Prop :=
 (r = -1 ∧ ∀ j (h : j + 1 < l.length), halves l[j] l[j + 1] = false) ∨ ∃ i : Nat, r = i ∧ ∃ h : i + 1 < l.length, halves l[i] l[i + 1] = true ∧ ∀ j (hj : j < i), halves l[j] l[j + 1] = false
theorem leftH_none {l : List Pc} (h : ∀ j (h : j + 1 < l.length), halves l[j] l[j + 1] = false) : leftH H l = l := by
 rw [leftH, heapH_none H l [] (by simp) h]; simp
theorem leftH_pair {l : List Pc} {i : Nat} (h : i + 1 < l.length) (h1 : halves l[i] l[i + 1] = true) (h2 : ∀ j (hj : j < i), halves l[j] l[j + 1] = false) :
  leftH H (l.take i ++ both H l[i] l[i + 1] :: l.drop (i + 2)) = leftH H l := by
 have e0 : l = l.take (i + 1) ++ l[i + 1] :: l.drop (i + 2) := by
  rw [← List.drop_eq_getElem_cons h, List.take_append_drop]
 have e1 : heapH H [] (l.take (i + 1)) = (l.take (i + 1)).reverse ++ [] := heapH_none H _ _ (by simp) (fun j hj => by
  rw [List.length_take] at hj
  rw [List.getElem_take, List.getElem_take]
  exact h2 j (by omega))
 have e2 : heapH H [] (l.take i) = (l.take i).reverse ++ [] := heapH_none H _ _ (by simp) (fun j hj => by
  rw [List.length_take] at hj
  rw [List.getElem_take, List.getElem_take]
  exact h2 j (by omega))
 have e3 : (l.take (i + 1)).reverse = l[i] :: (l.take i).reverse := by
  rw [List.take_succ_eq_append_getElem (by omega : i < l.length)]; simp
 unfold leftH
 rw [heapH_append, e2, List.append_nil]
 conv => rhs; rw [e0]
 rw [heapH_append, e1, List.append_nil, e3]
 show (heapH H (mergeH H _ _) _).reverse = (heapH H (mergeH H _ _) _).reverse
 rw [mergeH.eq_2, if_pos h1]
theorem leftH_len (l : List Pc) : (leftH H l).length ≤ l.length := by
 have hm : ∀ (st : List Pc) (s : Pc), (mergeH H st s).length ≤ st.length + 1 := by
  intro st
  induction st with
  | nil => intro s; simp [mergeH]
  | cons t r ih =>
   intro s
   rw [mergeH]
   split
   ·have := ih (both H t s); simp; omega
   ·simp
 have hh : ∀ (l st : List Pc), (heapH H st l).length ≤ st.length + l.length := by
  intro l
  induction l with
  | nil => intro st; simp [heapH]
  | cons x l ih =>
   intro st
   have h1 := ih (mergeH H st x)
   have h2 := hm st x
   show (heapH H (mergeH H st x) l).length ≤ _
   simp only [List.length_cons]; omega
 have := hh l []
 simpa [leftH] using this
def RunP : Nat → List Pc → Nat → Prop
 | a, [], b => a = b
 | a, x :: l, b => x.lo = a ∧ a < x.hi ∧ RunP x.hi l b
def RunR (a : Nat) : List Pc → Nat → Prop
 | [], b => a = b
 | x :: l, b => x.hi = b ∧ x.lo < b ∧ RunR a l x.lo
theorem RunP.le {b : Nat} : ∀ {l : List Pc} {a : Nat}, RunP a l b → a ≤ b
 | [], _, h => Nat.le_of_eq h
 | _ :: _, _, h => Nat.le_trans (Nat.le_of_lt h.2.1) (RunP.le h.2.2)
theorem RunR.merge {a : Nat} : ∀ {st : List Pc} {s : Pc}, RunR a st s.lo → s.lo < s.hi → RunR a (mergeH H st s) s.hi
 | [], s, h, hs => ⟨rfl, hs, h⟩
 | t :: r, s, h, hs => by
  rw [mergeH]
  split
  ·exact RunR.merge (s := both H t s) h.2.2 (by show t.lo < s.hi; have := h.2.1; omega)
  ·exact ⟨rfl, hs, h⟩
theorem RunR.heap {a : Nat} : ∀ {l st : List Pc} {b c : Nat}, RunR a st b → RunP b l c → RunR a (heapH H st l) c
 | [], _, _, _, h, h1 => by cases h1; exact h
 | x :: l, st, b, c, h, h1 => by
  obtain ⟨e, e1, e2⟩ := h1
  subst e
  exact RunR.heap (l := l) (RunR.merge H h e1) e2
variable (leaf : ByteArray → ByteArray)
end
def partsN : Nat → Nat → Nat → List (Nat × Nat)
 | 0, _, _ => []
 | f + 1, lo, hi => if lo < hi then (lo, lo + down 20 lo (hi - lo)) :: partsN f (lo + down 20 lo (hi - lo)) hi else []
def coverN (lo hi : Nat) : List (Nat × Nat) := partsN (hi - lo) lo hi
theorem partsN_parts : ∀ (f lo hi : Nat), parts f lo hi = (partsN f lo hi).map (fun x => ((x.1 : Int), (x.2 : Int)))
 | 0, _, _ => rfl
 | f + 1, lo, hi => by
  rw [parts, partsN]
  split
  ·rw [partsN_parts f]; rfl
  ·rfl
theorem cover_coverN (lo hi : Nat) : cover lo hi = (coverN lo hi).map (fun x => ((x.1 : Int), (x.2 : Int))) := partsN_parts _ _ _
theorem partsN_ok : ∀ (f lo hi : Nat), ∀ x ∈ partsN f lo hi, lo ≤ x.1 ∧ x.2 ≤ hi ∧ ∃ k, x.2 = x.1 + 2 ^ k ∧ x.1 % 2 ^ k = 0
 | 0, _, _, _, h => by cases h
 | f + 1, lo, hi, x, h => by
  rw [partsN] at h
  split at h
  next hlt =>
   have hle := down_le lo (hi - lo) (by omega) 20
   have hpos := down_pos lo (hi - lo) 20
   rcases List.mem_cons.1 h with rfl | h
   ·refine ⟨Nat.le_refl _, by show lo + _ ≤ hi; omega, ?_⟩
    have hd : ∀ k, ∃ j, down k lo (hi - lo) = 2 ^ j ∧ lo % 2 ^ j = 0 := by
     intro k
     induction k with
     | zero => exact ⟨0, rfl, by simp [Nat.mod_one]⟩
     | succ k ih =>
      rw [down]
      split
      next h => exact ⟨k + 1, rfl, h.2⟩
      next h => exact ih
    obtain ⟨j, h1, h2⟩ := hd 20
    exact ⟨j, by show lo + _ = lo + _; rw [h1], h2⟩
   ·obtain ⟨h1, h2, h3⟩ := partsN_ok f _ hi x h
    exact ⟨by omega, h2, h3⟩
  next => cases h
theorem coverN_ok {lo hi : Nat} {x : Nat × Nat} (h : x ∈ coverN lo hi) : lo ≤ x.1 ∧ x.2 ≤ hi ∧ ∃ k, x.2 = x.1 + 2 ^ k ∧ x.1 % 2 ^ k = 0 := partsN_ok _ _ _ x h
theorem coverN_len (lo hi : Nat) : (coverN lo hi).length = (cover lo hi).length := by rw [cover_coverN, List.length_map]
end Go.Proofs.Ytjmeakfjfpnciaa
namespace Go.Proofs.Ytjmeakfjfpnciaa
theorem partsN_fuel : ∀ (f g lo hi : Nat), hi - lo ≤ f → hi - lo ≤ g → partsN f lo hi = partsN g lo hi
 | 0, 0, _, _, _, _ => rfl
 | 0, g + 1, lo, hi, h, _ => by rw [partsN, partsN, if_neg (by omega)]
 | f + 1, 0, lo, hi, _, h => by rw [partsN, partsN, if_neg (by omega)]
 | f + 1, g + 1, lo, hi, h1, h2 => by
  rw [partsN, partsN]
  by_cases h : lo < hi
  ·rw [if_pos h, if_pos h]
   have := down_pos lo (hi - lo) 20
   rw [partsN_fuel f g _ hi (by omega) (by omega)]
  ·rw [if_neg h, if_neg h]
theorem coverN_some (lo hi : Nat) (h : lo < hi) : coverN lo hi = (lo, lo + down 20 lo (hi - lo)) :: coverN (lo + down 20 lo (hi - lo)) hi := by
 unfold coverN
 obtain ⟨f, hf⟩ : ∃ f, hi - lo = f + 1 := ⟨hi - lo - 1, by omega⟩
 have := down_pos lo (hi - lo) 20
 rw [hf, partsN, if_pos h, hf]
 rw [hf] at this
 rw [partsN_fuel f (hi - (lo + down 20 lo (f + 1))) _ hi (by omega) (Nat.le_refl _)]
theorem coverN_none (lo hi : Nat) (h : hi ≤ lo) : coverN lo hi = [] := by
 unfold coverN
 rw [show hi - lo = 0 by omega]
 rfl
def Dy (p : Pc) : Prop := ∃ k, p.hi = p.lo + 2 ^ k ∧ p.lo % 2 ^ k = 0
def NoH : List Pc → Prop
 | s :: t :: r => halves t s = false ∧ NoH (t :: r)
 | _ => True
def NoF : List Pc → Prop
 | s :: t :: r => halves s t = false ∧ NoF (t :: r)
 | _ => True
theorem NoH.tail {s : Pc} {l : List Pc} (h : NoH (s :: l)) : NoH l := by
 cases l with
 | nil => trivial
 | cons t r => exact h.2
theorem NoH.merge (H : ByteArray → ByteArray → ByteArray) : ∀ (st : List Pc) (s : Pc), NoH st → NoH (mergeH H st s)
 | [], _, _ => trivial
 | t :: r, s, h => by
  rw [mergeH]
  by_cases hh : halves t s = true
  ·rw [if_pos hh]; exact NoH.merge H r _ h.tail
  ·rw [if_neg hh]; exact ⟨by simpa using hh, h⟩
theorem NoH.heap (H : ByteArray → ByteArray → ByteArray) : ∀ (l st : List Pc), NoH st → NoH (heapH H st l)
 | [], _, h => h
 | x :: l, st, h => NoH.heap H l _ (NoH.merge H st x h)
theorem Dy.of2 (H : ByteArray → ByteArray → ByteArray) {t s : Pc} (ht : Dy t) (hs : Dy s) (hr : t.hi = s.lo) (h : halves t s = true) : Dy (both H t s) := by
 obtain ⟨j, e1, e2⟩ := ht
 obtain ⟨k, f1, f2⟩ := hs
 unfold halves at h
 rw [Bool.and_eq_true] at h
 have h1 := of_decide_eq_true h.1
 have h2 := of_decide_eq_true h.2
 rw [f1, Nat.add_sub_cancel_left] at h1 h2
 rw [e1, Nat.add_sub_cancel_left] at h1
 refine ⟨k + 1, ?_, ?_⟩
 ·show s.hi = t.lo + 2 ^ (k + 1)
  rw [f1, ← hr, e1, ← h1, Nat.pow_succ]
  omega
 ·show t.lo % 2 ^ (k + 1) = 0
  rw [Nat.pow_succ, Nat.mul_comm]
  exact h2
theorem Dy.merge (H : ByteArray → ByteArray → ByteArray) {a : Nat} : ∀ (st : List Pc) (s : Pc), RunR a st s.lo → (∀ p ∈ st, Dy p) → Dy s → ∀ p ∈ mergeH H st s, Dy p
 | [], s, _, _, hs => fun p hp => by rw [mergeH, List.mem_singleton] at hp; rw [hp]; exact hs
 | t :: r, s, hr, hd, hs => by
  rw [mergeH]
  by_cases hh : halves t s = true
  ·rw [if_pos hh]
   exact Dy.merge H r (both H t s) hr.2.2 (fun p hp => hd p (List.mem_cons_of_mem _ hp)) (Dy.of2 H (hd t (List.mem_cons_self ..)) hs hr.1 hh)
  ·rw [if_neg hh]
   intro p hp
   rcases List.mem_cons.1 hp with rfl | hp
   ·exact hs
   ·exact hd p hp
theorem Dy.heap (H : ByteArray → ByteArray → ByteArray) {a : Nat} : ∀ (l st : List Pc) (b c : Nat), RunR a st b → RunP b l c → (∀ p ∈ st, Dy p) → (∀ p ∈ l, Dy p) → ∀ p ∈ heapH H st l, Dy p
 | [], _, _, _, _, _, hd, _ => hd
 | x :: l, st, b, c, hr, hp, hd, hl => by
  obtain ⟨e, e1, e2⟩ := hp
  subst e
  exact Dy.heap H l _ x.hi c (RunR.merge H hr e1) e2 (Dy.merge H st x hr hd (hl x (List.mem_cons_self ..))) (fun p hp => hl p (List.mem_cons_of_mem _ hp))
theorem NoF.snoc : ∀ {l : List Pc} {s : Pc}, NoF l → (∀ t, l.getLast? = some t → halves t s = false) → NoF (l ++ [s])
 | [], _, _, _ => trivial
 | [t], s, _, h => ⟨h t rfl, trivial⟩
 | t :: u :: r, s, hn, h => ⟨hn.1, NoF.snoc (l := u :: r) hn.2 (fun x hx => h x (by rw [List.getLast?_cons_cons]; exact hx))⟩
theorem NoH.rev : ∀ {l : List Pc}, NoH l → NoF l.reverse
 | [], _ => trivial
 | [s], _ => trivial
 | s :: t :: r, h => by
  rw [List.reverse_cons]
  refine NoF.snoc (NoH.rev (l := t :: r) h.2) fun x hx => ?_
  rw [List.reverse_cons, List.getLast?_append] at hx
  simp at hx
  rw [← hx]
  exact h.1
theorem RunP.snoc : ∀ {l : List Pc} {a : Nat} {s : Pc}, RunP a l s.lo → s.lo < s.hi → RunP a (l ++ [s]) s.hi
 | [], a, s, h, hs => ⟨by cases h; rfl, by cases h; exact hs, rfl⟩
 | x :: l, a, s, h, hs => ⟨h.1, h.2.1, RunP.snoc (l := l) h.2.2 hs⟩
theorem RunR.rev {a : Nat} : ∀ {l : List Pc} {b : Nat}, RunR a l b → RunP a l.reverse b
 | [], _, h => h
 | x :: l, b, h => by
  rw [List.reverse_cons, ← h.1]
  exact RunP.snoc (RunR.rev h.2.2) (by rw [h.1]; exact h.2.1)
theorem down_at (lo d k : Nat) (h1 : 2 ^ k ≤ d) (h2 : d < 2 ^ (k + 1)) (h3 : lo % 2 ^ k = 0) (hk : k ≤ 20) : down 20 lo d = 2 ^ k :=
 down_eq lo d k h1 h3 (fun i hi h => by
  have := Nat.pow_le_pow_right (show 0 < 2 by decide) (show k + 1 ≤ i from hi)
  omega) 20 hk
theorem norm_aux (size : Nat) (h20 : size ≤ 1048576) : ∀ (l : List Pc) (p e : Nat), RunP p l size → (∀ x ∈ l, Dy x) → NoF l → p % 2 ^ e = 0 → (∀ x, l.head? = some x → x.hi - x.lo < 2 ^ e) → size - p < 2 ^ e ∧ l.map (fun x => (x.lo, x.hi)) = coverN p size
 | [], p, e, hr, _, _, _, _ => by
  cases hr
  exact ⟨by rw [Nat.sub_self]; exact Nat.pow_pos (by decide), by rw [coverN_none _ _ (Nat.le_refl _)]; rfl⟩
 | x :: l, p, e, hr, hd, hn, hp, hx => by
  obtain ⟨r1, r2, r3⟩ := hr
  subst r1
  obtain ⟨k, k1, k2⟩ := hd x (List.mem_cons_self ..)
  have hk := hx x rfl
  rw [k1, Nat.add_sub_cancel_left] at hk
  have hke : k < e := (Nat.pow_lt_pow_iff_right (by decide : 1 < 2)).1 hk
  have hp1 : x.lo % 2 ^ (k + 1) = 0 := pow_mod_mono x.lo e (k + 1) hke hp
  have hps : (2 : Nat) ^ (k + 1) = 2 * 2 ^ k := by rw [Nat.pow_succ, Nat.mul_comm]
  have hpp : 0 < 2 ^ k := Nat.pow_pos (by decide)
  have hm : x.hi % 2 ^ k = 0 := by rw [k1, Nat.add_mod_right]; exact k2
  have hm1 : x.hi % 2 ^ (k + 1) = 2 ^ k := by
   rw [k1, Nat.add_mod, hp1, Nat.zero_add, Nat.mod_mod]
   exact Nat.mod_eq_of_lt (by omega)
  have ih := norm_aux size h20 l x.hi k r3 (fun y hy => hd y (List.mem_cons_of_mem _ hy)) (by
   cases l with
   | nil => trivial
   | cons y r => exact hn.2) hm (fun y hy => by
   cases l with
   | nil => cases hy
   | cons z r =>
    obtain rfl := Option.some.inj hy
    obtain ⟨j, j1, j2⟩ := hd z (List.mem_cons_of_mem _ (List.mem_cons_self ..))
    have hz : z.lo = x.hi := r3.1
    rw [j1, Nat.add_sub_cancel_left]
    refine Nat.pow_lt_pow_right (by decide) (Nat.lt_of_not_le fun hjk => ?_)
    by_cases e1 : j = k
    ·subst e1
     have h9 := hn.1
     unfold halves at h9
     rw [j1, k1, Nat.add_sub_cancel_left, Nat.add_sub_cancel_left, decide_eq_true rfl, Bool.true_and, ← hps] at h9
     exact absurd hp1 (of_decide_eq_false h9)
    ·have h9 := pow_mod_mono z.lo j (k + 1) (by omega) j2
     rw [hz, hm1] at h9
     omega)
  have hle : x.hi ≤ size := r3.le
  have hd20 : 2 ^ k ≤ 1048576 := by omega
  have hk20 : k ≤ 20 := by
   refine Nat.le_of_not_lt fun h => ?_
   have := Nat.pow_le_pow_right (show 0 < 2 by decide) (show 21 ≤ k from h)
   have h21 : (2 : Nat) ^ 21 = 2097152 := by decide
   omega
  have hdn : down 20 x.lo (size - x.lo) = 2 ^ k := down_at x.lo _ k (by omega) (by rw [hps]; omega) k2 hk20
  refine ⟨Nat.lt_of_lt_of_le (show size - x.lo < 2 ^ (k + 1) by rw [hps]; omega) (Nat.pow_le_pow_right (by decide) hke), ?_⟩
  rw [List.map_cons, ih.2, coverN_some x.lo size (by omega), hdn, k1]
theorem leftH_cover (H : ByteArray → ByteArray → ByteArray) {l : List Pc} {size : Nat} (h20 : size ≤ 1048576) (hr : RunP 0 l size) (hd : ∀ p ∈ l, Dy p) : (leftH H l).map (fun x => (x.lo, x.hi)) = coverN 0 size := by
 unfold leftH
 have h1 : RunR 0 (heapH H [] l) size := RunR.heap H (show RunR 0 [] 0 from rfl) hr
 have h2 := NoH.heap H l [] trivial
 have h3 := Dy.heap H l [] 0 size (show RunR 0 [] 0 from rfl) hr (fun _ h => by cases h) hd
 refine (norm_aux size h20 _ 0 21 h1.rev (fun x hx => h3 x (List.mem_reverse.1 hx)) h2.rev (Nat.zero_mod _) (fun x hx => ?_)).2
 have hm : x ∈ (heapH H [] l).reverse := List.mem_of_head? hx
 have hle : x.hi ≤ size := by
  have hb : ∀ (l : List Pc) (a b : Nat), RunP a l b → ∀ y ∈ l, y.hi ≤ b := by
   intro l
   induction l with
   | nil => intro a b _ y hy; cases hy
   | cons z l ih =>
    intro a b h y hy
    rcases List.mem_cons.1 hy with rfl | hy
    ·exact h.2.2.le
    ·exact ih _ _ h.2.2 y hy
  exact hb _ _ _ h1.rev x hm
 have h21 : (2 : Nat) ^ 21 = 2097152 := by decide
 omega
theorem leftH_count (H : ByteArray → ByteArray → ByteArray) {l : List Pc} {size : Nat} (h20 : size ≤ 1048576) (hr : RunP 0 l size) (hd : ∀ p ∈ l, Dy p) : (leftH H l).length = (coverN 0 size).length := by
 rw [← leftH_cover H h20 hr hd, List.length_map]
end Go.Proofs.Ytjmeakfjfpnciaa
namespace Go.Proofs.Ytjmeakfjfpnciaa
structure Stp where
 a : Nat
 o : Nat
 m : Option Nat
 t : Nat
deriving DecidableEq
abbrev WL := List (BitVec 32)
def rotB (x : BitVec 32) (n : Nat) : BitVec 32 := BitVec.ofNat 32 (x.toNat / 2 ^ n + x.toNat % 2 ^ n * 2 ^ (32 - n))
def stepB (m v : WL) (s : Stp) : WL :=
 v.set s.a (if s.t = 0 then (v.getD s.a 0 + v.getD s.o 0) + (match s.m with | some k => m.getD k 0 | none => 0) else rotB (v.getD s.a 0 ^^^ v.getD s.o 0) s.t)
def ordL : List (List Nat) := [[0,1,2,3,4,5,6,7,8,9,10,11,12,13,14,15],[14,10,4,8,9,15,13,6,1,12,0,2,11,7,5,3],[11,8,12,0,5,2,15,13,10,14,3,6,7,1,9,4],[7,9,3,1,13,12,11,14,2,6,5,10,4,0,15,8],[9,0,5,7,2,4,10,15,14,1,11,12,6,8,3,13],
 [2,12,6,10,0,11,8,3,4,13,7,5,15,14,1,9],[12,5,1,15,14,13,4,10,0,7,6,3,9,2,8,11],[13,11,7,14,12,1,3,9,5,0,15,4,8,6,2,10],[6,15,14,9,11,3,0,8,12,2,13,7,1,4,10,5],[10,2,8,4,7,6,1,5,15,11,9,14,3,12,13,0]]
def ordN (r i : Nat) : Nat := (ordL.getD r []).getD i 0
def cA (i : Nat) : Nat := i % 4
def cB (i : Nat) : Nat := 4 + (i % 4 + i / 4) % 4
def cC (i : Nat) : Nat := 8 + (i % 4 + 2 * (i / 4)) % 4
def cD (i : Nat) : Nat := 12 + (i % 4 + 3 * (i / 4)) % 4
def quartL (i x y : Nat) : List Stp := [⟨cA i, cB i, some x, 0⟩, ⟨cD i, cA i, none, 16⟩, ⟨cC i, cD i, none, 0⟩, ⟨cB i, cC i, none, 12⟩, ⟨cA i, cB i, some y, 0⟩, ⟨cD i, cA i, none, 8⟩, ⟨cC i, cD i, none, 0⟩, ⟨cB i, cC i, none, 7⟩]
def quartB (m v : WL) (r i : Nat) : WL := (quartL i (ordN r (2 * i)) (ordN r (2 * i + 1))).foldl (stepB m) v
def rowL (r : Nat) : List Stp := (List.range 8).flatMap fun i => quartL i (ordN r (2 * i)) (ordN r (2 * i + 1))
def allL : List Stp := (List.range 10).flatMap rowL
def stirB (v m : WL) : WL := allL.foldl (stepB m) v
theorem stepB_len (m v : WL) (s : Stp) : (stepB m v s).length = v.length := by unfold stepB; rw [List.length_set]
theorem steps_len (m : WL) : ∀ (l : List Stp) (v : WL), (l.foldl (stepB m) v).length = v.length
 | [], _ => rfl
 | s :: l, v => by rw [List.foldl_cons, steps_len m l, stepB_len]
theorem stirB_len (v m : WL) : (stirB v m).length = v.length := steps_len _ _ _
def halfB (m : WL) (r i : Nat) (v : WL) : WL := ((List.range i).flatMap fun i => quartL i (ordN r (2 * i)) (ordN r (2 * i + 1))).foldl (stepB m) v
def roundsB (m : WL) (r : Nat) (v : WL) : WL := ((List.range r).flatMap rowL).foldl (stepB m) v
theorem halfB_succ (m : WL) (r i : Nat) (v : WL) : halfB m r (i + 1) v = quartB m (halfB m r i v) r i := by
 unfold halfB quartB
 rw [List.range_succ, List.flatMap_append, List.foldl_append]
 simp
theorem roundsB_succ (m : WL) (r : Nat) (v : WL) : roundsB m (r + 1) v = halfB m r 8 (roundsB m r v) := by
 unfold roundsB halfB
 rw [List.range_succ, List.flatMap_append, List.foldl_append]
 simp [rowL]
theorem roundsB_all (m : WL) (v : WL) : roundsB m 10 v = stirB v m := rfl
theorem halfB_len (m : WL) (r i : Nat) (v : WL) : (halfB m r i v).length = v.length := steps_len _ _ _
theorem roundsB_len (m : WL) (r : Nat) (v : WL) : (roundsB m r v).length = v.length := steps_len _ _ _
theorem quart_words (m v : WL) (r i : Nat) (hv : v.length = 16) (a b c d x y : BitVec 32)
  (ha : v.getD (cA i) 0 = a) (hb : v.getD (cB i) 0 = b) (hc : v.getD (cC i) 0 = c) (hd : v.getD (cD i) 0 = d) (hx : m.getD (ordN r (2 * i)) 0 = x) (hy : m.getD (ordN r (2 * i + 1)) 0 = y) :
  let a1 := a + b + x
  let d1 := rotB (d ^^^ a1) 16
  let c1 := c + d1
  let b1 := rotB (b ^^^ c1) 12
  let a2 := a1 + b1 + y
  let d2 := rotB (d1 ^^^ a2) 8
  let c2 := c1 + d2
  let b2 := rotB (b1 ^^^ c2) 7
  quartB m v r i = (((((((v.set (cA i) a1).set (cD i) d1).set (cC i) c1).set (cB i) b1).set (cA i) a2).set (cD i) d2).set (cC i) c2).set (cB i) b2 := by
 intro a1 d1 c1 b1 a2 d2 c2 b2
 have hA : cA i < 4 := by unfold cA; omega
 have hB : 4 ≤ cB i ∧ cB i < 8 := by unfold cB; omega
 have hC : 8 ≤ cC i ∧ cC i < 12 := by unfold cC; omega
 have hD : 12 ≤ cD i ∧ cD i < 16 := by unfold cD; omega
 unfold quartB quartL
 generalize cA i = A at *
 generalize cB i = B at *
 generalize cC i = C at *
 generalize cD i = D at *
 simp only [List.foldl_cons, List.foldl_nil]
 have gs : ∀ (l : WL) (k : Nat) (u : BitVec 32), k < l.length → (l.set k u).getD k 0 = u := fun l k u h => by simp [List.getD, h]
 have gn : ∀ (l : WL) (k j : Nat) (u : BitVec 32), k ≠ j → (l.set k u).getD j 0 = l.getD j 0 := fun l k j u h => by simp [List.getD, List.getElem?_set_ne h]
 have e1 : stepB m v ⟨A, B, some (ordN r (2 * i)), 0⟩ = v.set A a1 := by unfold stepB; simp only [if_pos, ha, hb, hx]; rfl
 rw [e1]
 have e2 : stepB m (v.set A a1) ⟨D, A, none, 16⟩ = (v.set A a1).set D d1 := by
  unfold stepB; rw [if_neg (by simp), gn _ A D _ (by omega), gs _ A _ (by omega), hd]
 rw [e2]
 have e3 : stepB m ((v.set A a1).set D d1) ⟨C, D, none, 0⟩ = ((v.set A a1).set D d1).set C c1 := by
  unfold stepB; rw [if_pos rfl, gn _ D C _ (by omega), gn _ A C _ (by omega), gs _ D _ (by simp; omega), hc]; simp [c1]
 rw [e3]
 have e4 : stepB m (((v.set A a1).set D d1).set C c1) ⟨B, C, none, 12⟩ = (((v.set A a1).set D d1).set C c1).set B b1 := by
  unfold stepB; rw [if_neg (by simp), gn _ C B _ (by omega), gn _ D B _ (by omega), gn _ A B _ (by omega), gs _ C _ (by simp; omega), hb]
 rw [e4]
 have e5 : stepB m ((((v.set A a1).set D d1).set C c1).set B b1) ⟨A, B, some (ordN r (2 * i + 1)), 0⟩ = ((((v.set A a1).set D d1).set C c1).set B b1).set A a2 := by
  unfold stepB; rw [if_pos rfl, gn _ B A _ (by omega), gn _ C A _ (by omega), gn _ D A _ (by omega), gs _ A _ (by omega), gs _ B _ (by simp; omega)]; rw [show (match (some (ordN r (2 * i + 1)) : Option Nat) with | some k => m.getD k 0 | none => 0) = y from hy]
 rw [e5]
 have e6 : stepB m (((((v.set A a1).set D d1).set C c1).set B b1).set A a2) ⟨D, A, none, 8⟩ = (((((v.set A a1).set D d1).set C c1).set B b1).set A a2).set D d2 := by
  unfold stepB; rw [if_neg (by simp), gn _ A D _ (by omega), gn _ B D _ (by omega), gn _ C D _ (by omega), gs _ D _ (by simp; omega), gs _ A _ (by simp; omega)]
 rw [e6]
 have e7 : stepB m ((((((v.set A a1).set D d1).set C c1).set B b1).set A a2).set D d2) ⟨C, D, none, 0⟩ = ((((((v.set A a1).set D d1).set C c1).set B b1).set A a2).set D d2).set C c2 := by
  unfold stepB; rw [if_pos rfl, gn _ D C _ (by omega), gn _ A C _ (by omega), gn _ B C _ (by omega), gs _ C _ (by simp; omega), gs _ D _ (by simp; omega)]; simp [c2]
 rw [e7]
 unfold stepB; rw [if_neg (by simp), gn _ C B _ (by omega), gn _ D B _ (by omega), gn _ A B _ (by omega), gs _ B _ (by simp; omega), gs _ C _ (by simp; omega)]
def rot1 (x : BitVec 32) : BitVec 32 := BitVec.ofNat 32 (x.toNat / 2 + x.toNat % 2 * 2147483648)
def rotI : Nat → BitVec 32 → BitVec 32
 | 0, x => x
 | n + 1, x => rot1 (rotI n x)
theorem rotI_nat (x : BitVec 32) : ∀ n, n ≤ 16 → (rotI n x).toNat = x.toNat / 2 ^ n + x.toNat % 2 ^ n * 2 ^ (32 - n) := by
 have hx := x.isLt
 have key : ∀ (y : BitVec 32) (z : Nat), y.toNat = z → (rot1 y).toNat = z / 2 + z % 2 * 2147483648 := fun y z h => by
  have := y.isLt
  unfold rot1
  rw [BitVec.toNat_ofNat, h, Nat.mod_eq_of_lt]
  omega
 have h0 : (rotI 0 x).toNat = x.toNat / 2 ^ 0 + x.toNat % 2 ^ 0 * 2 ^ (32 - 0) := by simp [rotI]; omega
 intro n hn
 have st : ∀ n, n < 16 → (rotI n x).toNat = x.toNat / 2 ^ n + x.toNat % 2 ^ n * 2 ^ (32 - n) → (rotI (n + 1) x).toNat = x.toNat / 2 ^ (n + 1) + x.toNat % 2 ^ (n + 1) * 2 ^ (32 - (n + 1)) := by
  intro n hn h
  have h1 := key _ _ h
  show (rot1 (rotI n x)).toNat = _
  rw [h1]
  have hc : n = 0 ∨ n = 1 ∨ n = 2 ∨ n = 3 ∨ n = 4 ∨ n = 5 ∨ n = 6 ∨ n = 7 ∨ n = 8 ∨ n = 9 ∨ n = 10 ∨ n = 11 ∨ n = 12 ∨ n = 13 ∨ n = 14 ∨ n = 15 := by omega
  clear h h1 key h0
  generalize x.toNat = X at *
  rcases hc with rfl | rfl | rfl | rfl | rfl | rfl | rfl | rfl | rfl | rfl | rfl | rfl | rfl | rfl | rfl | rfl <;> simp <;> omega
 induction n with
 | zero => exact h0
 | succ n ih => exact st n (by omega) (ih (by omega))
theorem rotI_eq (x : BitVec 32) (n : Nat) (h : n ≤ 16) : rotI n x = rotB x n := by
 apply BitVec.eq_of_toNat_eq
 have e := rotI_nat x n h
 unfold rotB
 rw [BitVec.toNat_ofNat, ← e, Nat.mod_eq_of_lt (rotI n x).isLt]
theorem rot_or (x : BitVec 32) (n : Nat) (h0 : n = 16 ∨ n = 12 ∨ n = 8 ∨ n = 7) : (x >>> n) ||| (x <<< (32 - n)) = rotB x n := by
 apply BitVec.eq_of_toNat_eq
 have hx := x.isLt
 unfold rotB
 rw [BitVec.toNat_or, BitVec.toNat_ushiftRight, BitVec.toNat_shiftLeft, BitVec.toNat_ofNat, Nat.or_comm]
 have e : x.toNat <<< (32 - n) % 2 ^ 32 = (x.toNat % 2 ^ n) <<< (32 - n) := by
  rw [Nat.shiftLeft_eq, Nat.shiftLeft_eq]
  generalize x.toNat = X at *
  rcases h0 with rfl | rfl | rfl | rfl <;> omega
 rw [e, ← Nat.shiftLeft_add_eq_or_of_lt (by rw [Nat.shiftRight_eq_div_pow]; generalize x.toNat = X at *; rcases h0 with rfl | rfl | rfl | rfl <;> omega), Nat.shiftRight_eq_div_pow, Nat.shiftLeft_eq]
 generalize x.toNat = X at *
 rcases h0 with rfl | rfl | rfl | rfl <;> omega
def startB : WL := [0x6a09e667, 0xbb67ae85, 0x3c6ef372, 0xa54ff53a, 0x510e527f, 0x9b05688c, 0x1f83d9ab, 0x5be0cd19]
def preB (h : WL) (n : Nat) (last : Bool) : WL :=
 let v := (h ++ startB).set 12 (startB.getD 4 0 ^^^ BitVec.ofNat 32 n)
 let v := v.set 13 (startB.getD 5 0 ^^^ BitVec.ofNat 32 (n / 4294967296))
 if last then v.set 14 (~~~ startB.getD 6 0) else v
def mixB (h w : WL) (k : Nat) : WL := (List.range 8).map fun i => if i < k then h.getD i 0 ^^^ w.getD i 0 ^^^ w.getD (i + 8) 0 else h.getD i 0
def pressB (h m : WL) (n : Nat) (last : Bool) : WL := mixB h (stirB (preB h n last) m) 8
theorem mixB_len (h w : WL) (k : Nat) : (mixB h w k).length = 8 := by unfold mixB; simp
theorem pressB_len (h m : WL) (n : Nat) (last : Bool) : (pressB h m n last).length = 8 := mixB_len _ _ _
theorem mixB_at (h w : WL) (k i : Nat) (hi : i < (mixB h w k).length) : (mixB h w k)[i] = if i < k then h.getD i 0 ^^^ w.getD i 0 ^^^ w.getD (i + 8) 0 else h.getD i 0 := by simp only [mixB, List.getElem_map, List.getElem_range]
theorem mixB_zero (h w : WL) (hh : h.length = 8) : mixB h w 0 = h := by
 apply List.ext_getElem (by rw [mixB_len, hh])
 intro i h1 h2
 rw [mixB_at, if_neg (by omega)]
 simp [List.getD, List.getElem?_eq_getElem h2]
theorem mixB_succ (h w : WL) (k : Nat) : mixB h w (k + 1) = (mixB h w k).set k (h.getD k 0 ^^^ w.getD k 0 ^^^ w.getD (k + 8) 0) := by
 apply List.ext_getElem (by rw [List.length_set, mixB_len, mixB_len])
 intro i h1 h2
 rw [List.getElem_set, mixB_at, mixB_at]
 by_cases e : k = i
 ·subst e; rw [if_pos (by omega), if_pos rfl]
 ·rw [if_neg e]
  by_cases e2 : i < k
  ·rw [if_pos e2, if_pos (by omega)]
  ·rw [if_neg e2, if_neg (by omega)]
def byteW (l : List UInt8) (k j : Nat) : Nat := if j < k then (l.getD j 0).toNat else 0
def wordB (l : List UInt8) (k j : Nat) : BitVec 32 := BitVec.ofNat 32 (byteW l k (4 * j) + byteW l k (4 * j + 1) * 256 + byteW l k (4 * j + 2) * 65536 + byteW l k (4 * j + 3) * 16777216)
def wordsB (l : List UInt8) (k : Nat) : WL := (List.range 16).map (wordB l k)
theorem wordsB_len (l : List UInt8) (k : Nat) : (wordsB l k).length = 16 := by unfold wordsB; simp
theorem byteW_lt (l : List UInt8) (k j : Nat) : byteW l k j < 256 := by
 unfold byteW
 split
 ·exact (l.getD j 0).toNat_lt
 ·omega
theorem wordsB_zero (l : List UInt8) : wordsB l 0 = List.replicate 16 0 := by
 unfold wordsB
 rw [List.map_congr_left (g := fun _ => (0 : BitVec 32)) (fun j _ => by unfold wordB byteW; simp)]
 rfl
theorem wordsB_at (l : List UInt8) (k j : Nat) (hj : j < (wordsB l k).length) : (wordsB l k)[j] = wordB l k j := by simp only [wordsB, List.getElem_map, List.getElem_range]
theorem wordsB_get (l : List UInt8) (k j : Nat) (h : j < 16) : (wordsB l k).getD j 0 = wordB l k j := by
 unfold wordsB
 simp [List.getD, h]
theorem wordsB_succ (l : List UInt8) (k : Nat) (hk : k < 64) : wordsB l (k + 1) = (wordsB l k).set (k / 4) ((wordsB l k).getD (k / 4) 0 + BitVec.ofNat 32 ((l.getD k 0).toNat * 256 ^ (k % 4))) := by
 apply List.ext_getElem (by rw [List.length_set, wordsB_len, wordsB_len])
 intro j h1 h2
 have hj : j < 16 := by rwa [wordsB_len] at h1
 rw [List.getElem_set]
 simp only [wordsB_get l k (k / 4) (show k / 4 < 16 by omega)]
 rw [wordsB_at, wordsB_at]
 by_cases e : k / 4 = j
 ·rw [if_pos e, e]
  unfold wordB
  rw [← BitVec.ofNat_add]
  congr 1
  have hr : k % 4 = 0 ∨ k % 4 = 1 ∨ k % 4 = 2 ∨ k % 4 = 3 := by omega
  unfold byteW
  rcases hr with hr | hr | hr | hr
  ·obtain rfl : k = 4 * j := by omega
   rw [hr]
   simp only [Nat.reducePow]
   (repeat' split) <;> omega
  ·obtain rfl : k = 4 * j + 1 := by omega
   rw [hr]
   simp only [Nat.reducePow]
   (repeat' split) <;> omega
  ·obtain rfl : k = 4 * j + 2 := by omega
   rw [hr]
   simp only [Nat.reducePow]
   (repeat' split) <;> omega
  ·obtain rfl : k = 4 * j + 3 := by omega
   rw [hr]
   simp only [Nat.reducePow]
   (repeat' split) <;> omega
 ·rw [if_neg e]
  unfold wordB
  congr 1
  have key : ∀ i, i ≠ k → byteW l (k + 1) i = byteW l k i := fun i hi => by
   unfold byteW
   by_cases h : i < k
   ·rw [if_pos h, if_pos (by omega)]
   ·rw [if_neg h, if_neg (by omega)]
  rw [key _ (by omega), key _ (by omega), key _ (by omega), key _ (by omega)]
theorem wordsB_congr (l l' : List UInt8) (k k' : Nat) (h : ∀ j, j < 64 → byteW l k j = byteW l' k' j) : wordsB l k = wordsB l' k' := by
 unfold wordsB
 apply List.map_congr_left
 intro j hj
 have hj := List.mem_range.1 hj
 unfold wordB
 rw [h _ (by omega), h _ (by omega), h _ (by omega), h _ (by omega)]
def h0B : WL := startB.set 0 0x6b08e647
def pieceB (s : List UInt8) (k : Nat) : List UInt8 := (s.drop (64 * k)).take 64
def allB (s : List UInt8) : Nat → WL
 | 0 => h0B
 | k + 1 => pressB (allB s k) (wordsB (pieceB s k) 64) (64 * (k + 1)) false
def lastB (s : List UInt8) : Nat := (s.length - 1) / 64
def digW (s : List UInt8) : WL := pressB (allB s (lastB s)) (wordsB (pieceB s (lastB s)) 64) s.length true
theorem allB_len (s : List UInt8) : ∀ k, (allB s k).length = 8
 | 0 => rfl
 | _ + 1 => pressB_len _ _ _ _
theorem digW_len (s : List UInt8) : (digW s).length = 8 := pressB_len _ _ _ _
theorem pieceB_append (s t : List UInt8) (k : Nat) (h : 64 * (k + 1) ≤ s.length) : pieceB (s ++ t) k = pieceB s k := by
 unfold pieceB
 rw [List.drop_append_of_le_length (by omega), List.take_append_of_le_length (by rw [List.length_drop]; omega)]
theorem allB_append (s t : List UInt8) : ∀ k, 64 * k ≤ s.length → allB (s ++ t) k = allB s k
 | 0, _ => rfl
 | k + 1, h => by unfold allB; rw [allB_append s t k (by omega), pieceB_append s t k h]
def outB (w : WL) : List UInt8 := w.flatMap fun x => [UInt8.ofNat (x.toNat % 256), UInt8.ofNat (x.toNat / 256 % 256), UInt8.ofNat (x.toNat / 65536 % 256), UInt8.ofNat (x.toNat / 16777216 % 256)]
theorem outB_len (w : WL) : (outB w).length = 4 * w.length := by
 unfold outB
 induction w with
 | nil => rfl
 | cons x w ih => rw [List.flatMap_cons, List.length_append, ih, List.length_cons]; simp; omega
def digB (s : List UInt8) : List UInt8 := outB (digW s)
theorem digB_len (s : List UInt8) : (digB s).length = 32 := by unfold digB; rw [outB_len, digW_len]
def fourL (n : Nat) : List UInt8 := [UInt8.ofNat (n / 16777216 % 256), UInt8.ofNat (n / 65536 % 256), UInt8.ofNat (n / 256 % 256), UInt8.ofNat (n % 256)]
def bytesOf (s : ByteArray) : List UInt8 := s.data.toList
def pfxL (s : ByteArray) : List UInt8 := fourL s.size ++ bytesOf s
def joinL (label : ByteArray) (ps : List ByteArray) : List UInt8 := pfxL label ++ ps.flatMap pfxL
def digS (s : List UInt8) : ByteArray := ⟨(digB s).toArray⟩
def tagS (label : ByteArray) (ps : List ByteArray) : ByteArray := digS (joinL label ps)
def fourS (n : Nat) : ByteArray := ⟨(fourL n).toArray⟩
theorem digS_size (s : List UInt8) : (digS s).size = 32 := by
 show (digB s).toArray.size = 32
 rw [List.size_toArray, digB_len]
theorem tagS_size (l : ByteArray) (ps : List ByteArray) : (tagS l ps).size = 32 := digS_size _
theorem fourS_size (n : Nat) : (fourS n).size = 4 := rfl
structure Fold (s : List UInt8) (h : WL) (n : Nat) (hb : List UInt8) (k : Nat) : Prop where
 le : k ≤ 64
 sum : n + k = s.length
 mod : n % 64 = 0
 hs : h = allB s (n / 64)
 held : hb.take k = s.drop n
 len : hb.length = 64
theorem Fold.nil (hb : List UInt8) (h : hb.length = 64) : Fold [] h0B 0 hb 0 := ⟨by omega, rfl, rfl, rfl, rfl, h⟩
theorem Fold.press {s : List UInt8} {h : WL} {n : Nat} {hb : List UInt8} (f : Fold s h n hb 64) : Fold s (pressB h (wordsB hb 64) (n + 64) false) (n + 64) hb 0 := by
 obtain ⟨_, h1, h2, h3, h4, h5⟩ := f
 refine ⟨by omega, by omega, by omega, ?_, by rw [List.take_zero, List.drop_eq_nil_of_le (by omega)], h5⟩
 obtain ⟨q, rfl⟩ : ∃ q, n = 64 * q := ⟨n / 64, by omega⟩
 have e : (64 * q + 64) / 64 = q + 1 := by omega
 have e2 : 64 * q / 64 = q := by omega
 rw [e]
 rw [e2] at h3
 rw [h3]
 show _ = pressB (allB s q) (wordsB (pieceB s q) 64) (64 * (q + 1)) false
 have e3 : pieceB s q = hb := by
  unfold pieceB
  rw [← h4, List.take_take, Nat.min_self, List.take_of_length_le (by omega)]
 rw [e3, show 64 * (q + 1) = 64 * q + 64 by omega]
theorem Fold.lay {s : List UInt8} {h : WL} {n : Nat} {hb : List UInt8} {k : Nat} (f : Fold s h n hb k) (t : List UInt8) (ht : k + t.length ≤ 64) : Fold (s ++ t) h n (hb.take k ++ t ++ hb.drop (k + t.length)) (k + t.length) := by
 obtain ⟨h0, h1, h2, h3, h4, h5⟩ := f
 have hk : (hb.take k).length = k := by rw [List.length_take]; omega
 refine ⟨ht, by rw [List.length_append]; omega, h2, ?_, ?_, ?_⟩
 ·rw [allB_append _ _ _ (by omega)]; exact h3
 ·rw [List.take_append_of_le_length (by rw [List.length_append, hk]; exact Nat.le_refl _), List.take_of_length_le (by rw [List.length_append, hk]; exact Nat.le_refl _), List.drop_append_of_le_length (by omega), h4]
 ·simp; omega
theorem Fold.fin {s : List UInt8} {h : WL} {n : Nat} {hb : List UInt8} {k : Nat} (f : Fold s h n hb k) (h0 : s = [] ∨ 0 < k) : pressB h (wordsB (hb.take k ++ List.replicate (64 - k) 0) 64) (n + k) true = digW s := by
 obtain ⟨hk, h1, h2, h3, h4, h5⟩ := f
 unfold digW
 have e1 : n / 64 = lastB s := by
  unfold lastB
  rcases h0 with rfl | h0
  ·have : n = 0 := by simp at h1; omega
   subst this; rfl
  ·omega
 have e2 : n = 64 * lastB s := by omega
 rw [h3, e1, h1]
 congr 1
 apply wordsB_congr
 intro j hj
 unfold byteW
 rw [if_pos hj, if_pos hj, h4]
 congr 1
 unfold pieceB
 rw [← e2]
 have e3 : (s.drop n).length = k := by rw [List.length_drop]; omega
 rw [List.take_of_length_le (by omega)]
 unfold List.getD
 by_cases h : j < k
 ·rw [List.getElem?_append_left (by omega)]
 ·rw [List.getElem?_append_right (by omega), List.getElem?_eq_none (l := s.drop n) (by omega), List.getElem?_replicate]
  split <;> rfl
end Go.Proofs.Ytjmeakfjfpnciaa
namespace Go.Proofs.Ytjmeakfjfpnciaa
open Go.RowKit
theorem wrap32_nat (n : Nat) : IntKind.u32.wrap (n : Int) = ((n % 4294967296 : Nat) : Int) := by
 simp [IntKind.wrap, IntKind.signed, IntKind.bits]
theorem bv_of (x : BitVec 32) : BitVec.ofInt 32 (x.toNat : Int) = x := by apply BitVec.eq_of_toNat_eq; simp
theorem wrap_bv (x : BitVec 32) : IntKind.u32.wrap (x.toNat : Int) = (x.toNat : Int) := by
 have := x.isLt
 rw [wrap32_nat, Nat.mod_eq_of_lt (by omega)]
theorem bits_xor (a b : BitVec 32) : bits BinOp.xor IntKind.u32 (a.toNat : Int) (b.toNat : Int) = ((a ^^^ b).toNat : Int) := by
 show IntKind.u32.wrap ((BitVec.ofInt 32 (a.toNat : Int) ^^^ BitVec.ofInt 32 (b.toNat : Int) : BitVec 32).toNat : Int) = _
 rw [bv_of, bv_of, wrap_bv]
theorem bits_not (a : BitVec 32) : bits BinOp.xor IntKind.u32 4294967295 (a.toNat : Int) = ((~~~ a).toNat : Int) := by
 have e : (4294967295 : Int) = ((4294967295#32).toNat : Int) := rfl
 rw [e, bits_xor, BitVec.not_def, show (4294967295#32) = BitVec.allOnes 32 from rfl]
theorem bits_or (a b : Nat) (ha : a < 4294967296) (hb : b < 4294967296) : bits BinOp.or IntKind.u32 (a : Int) (b : Int) = ((a ||| b : Nat) : Int) := by
 show IntKind.u32.wrap ((BitVec.ofInt 32 (a : Int) ||| BitVec.ofInt 32 (b : Int) : BitVec 32).toNat : Int) = _
 have e : ∀ n : Nat, BitVec.ofInt 32 (n : Int) = BitVec.ofNat 32 n := fun n => by apply BitVec.eq_of_toNat_eq; simp
 rw [e, e, wrap_bv, BitVec.toNat_or, BitVec.toNat_ofNat, BitVec.toNat_ofNat, Nat.mod_eq_of_lt (show a < 2 ^ 32 from ha), Nat.mod_eq_of_lt (show b < 2 ^ 32 from hb)]
theorem add32 (a b : BitVec 32) : ((a.toNat : Int) + (b.toNat : Int)) % 4294967296 = ((a + b).toNat : Int) := by
 rw [BitVec.toNat_add]; omega
def wlV (l : WL) : List Value := l.map fun x => .int .u32 (x.toNat : Int)
theorem wlV_len (l : WL) : (wlV l).length = l.length := List.length_map _
theorem wlV_get (l : WL) (i : Nat) (h : i < l.length) : (wlV l)[i]? = some (.int .u32 ((l.getD i 0).toNat : Int)) := by
 unfold wlV
 simp [List.getD, h]
theorem wlV_set (l : WL) (i : Nat) (x : BitVec 32) : (wlV l).set i (.int .u32 (x.toNat : Int)) = wlV (l.set i x) := by
 unfold wlV
 rw [List.map_set]
end Go.Proofs.Ytjmeakfjfpnciaa
namespace Go.Proofs.Ytjmeakfjfpnciaa
open Go.RowKit
theorem RowO.of_bx {N b n : Nat} {w : World} {e : TypeId} {size : Nat} {cs : List Value} (h : Bx w b e cs) (hN : N ≤ b) (hn : cs.length = n * size) (hm : n ≤ maxLen) : RowO N w e size (.slice (some ⟨b, 0, none⟩) n n) n cs := by
 refine ⟨hn, Or.inr ⟨b, n, cs.toArray, rfl, hN, h, Nat.le_refl _, hm, by simpa using hn, ?_⟩⟩
 rw [← hn]; simp
theorem Sl.addr {w : World} {B : Nat} {ad : Addr} {cs : List Value} (h : Sl w B (some ad) cs) : ∀ j u, cs[j]? = some u → w.cell? (ad.add j) = some u := by
 intro j u hj
 rcases h with rfl | ⟨b, off, he, _, hc⟩
 ·simp at hj
 ·simp only [Option.some.injEq] at he
  subst he
  have : (⟨b, off, none⟩ : Addr).add j = ⟨b, off + j, none⟩ := by unfold Addr.add; split <;> simp_all
  rw [this]; exact hc j u hj
theorem wpList_joinR {P : Program} (N : Nat) (w : World) (hN : N ≤ w.heap.size) {ops : Array Oper} {rest : List Oper} {o : Oper} {a : Act} {Q : Exit → Act → World → Prop} (hgd : o.guard = none) (s x : Operand) (t : TypeId)
  (ho : o.op = .call { callee := .builtin .append, args := #[s, x], argTypes := #[t, t] })
  (e : TypeId) (i : TypeInfo) (z : Value) (size bytes : Nat) (ht : P.underlying t = some (.slice e)) (hi : P.info? e = some i) (hz : i.zero = some z)
  (hsize : i.size = size) (hby : i.bytes = bytes) (hzs : z.cells.size = size) (hsz : 0 < size)
  (v : Value) (n : Nat) (xs : List Value) (hs : a.eval s = v) (hown : RowO N w e size v n xs)
  (al : Option Addr) (m c : Nat) (news : List Value) (hx : a.eval x = .slice al m c) (hl : news.length = m * size) (hS : Sl w w.heap.size al news) (h0 : al = none → c = 0) (h1 : ∀ u ∈ news, u.oneCell' = true)
  (h63 : (n + m) * bytes ≤ 140737488355328) (hn : n + m ≤ maxLen)
  (h : ∀ a' c' w', RowO N w' e size (.slice a' (n + m) c') (n + m) (xs ++ news) → w.grownBy w' v.ownBlock → wpList P ops Q rest (a.put o.dst (.slice a' (n + m) c')) w') :
  wpList P ops Q (o :: rest) a w := by
 cases al with
 | none =>
  have hc := h0 rfl
  subst hc
  have hnews : news = [] := by
   rcases hS with h9 | ⟨b, off, h9, _⟩
   ·exact h9
   ·cases h9
  subst hnews
  have hm : m = 0 := by
   rcases Nat.mul_eq_zero.1 hl.symm with h9 | h9
   ·exact h9
   ·omega
  subst hm
  obtain ⟨a', c', rfl⟩ := RowO.form hown
  refine wpList_append_own_none hgd s x t ho N e i size ht hi _ n xs hs hown hx ?_
  exact h a' c' w (by simpa using hown) ⟨rfl, rfl, rfl, Nat.le_refl _, fun _ _ _ => rfl⟩
 | some ad =>
  refine wpList_plain hgd fun K hK => ?_
  obtain ⟨v', w', hr, h2, h3, _, _⟩ := run_append_own_at (P := P) w N t o.type e i z size bytes ht hi hz hsize hby hzs hsz v n xs hown ad m c news hl hS.addr h1 hn h63 hN
  obtain ⟨a', c', rfl⟩ := RowO.form (N := N) h2
  unfold Oper.wp execOp
  simp only [ho, resolve, invoke, builtin, Sem.run_bind, Sem.run_pure, Result.andThen_ok, List.map_toArray, List.map_cons, List.map_nil, hs, hx, hr]
  exact hK _ _ (h a' c' w' h2 h3)
theorem step_pushR {P : Program} (N : Nat) (w0 : World) (hN : N ≤ w0.heap.size) {ops : Array Oper} {o : Oper} {a : Act} {K : Act → World → Prop} {Q : Exit → Act → World → Prop} {E : Prop} (hgd : o.guard = none) (s x : Operand) (t : TypeId)
  (ho : o.op = .call { callee := .builtin .append, args := #[s, x], argTypes := #[t, t] })
  (e : TypeId) (i : TypeInfo) (z : Value) (size bytes : Nat) (ht : P.underlying t = some (.slice e)) (hi : P.info? e = some i) (hz : i.zero = some z)
  (hsize : i.size = size) (hby : i.bytes = bytes) (hzs : z.cells.size = size) (hsz : 0 < size)
  (v : Value) (n : Nat) (xs : List Value) (hs : a.eval s = v) (hown : RowO N w0 e size v n xs)
  (news : Array Value) (e2 : TypeId) (b : Nat) (hb : w0.heap.size = b) (hx : a.eval x = .slice (some ⟨b, 0, none⟩) 1 1) (hl : news.size = size) (h1 : ∀ u ∈ news.toList, u.oneCell' = true)
  (h63 : (n + 1) * bytes ≤ 140737488355328) (hn : n + 1 ≤ maxLen)
  (h : ∀ g cap w', RowO N w' e size (.slice (some ⟨g, 0, none⟩) (n + 1) cap) (n + 1) (xs ++ news.toList) → w0.grownBy w' v.ownBlock → K (a.put o.dst (.slice (some ⟨g, 0, none⟩) (n + 1) cap)) w') :
  if Region.wanted o (yielded ops a.tmps) = true then Oper.wp P o a (w0.alloc (.cells news e2)) K Q else E := by
 subst hb
 refine step_append_lies _ hgd s x t ho N e i z size bytes ht hi hz hsize hby hzs hsz v n xs hs (World.ownsRow.alloc hown _) ⟨w0.heap.size, 0, none⟩ 1 1 news.toList hx (by simpa using hl)
  (World.news_of_block (heap_alloc_new w0 _)) h1 (by omega) hn h63 (by simp; omega) _ rfl ?_
 intro g cap w' hown' hg _ _
 refine h g cap w' hown' ⟨hg.os, hg.tape, hg.output, ?_, ?_⟩
 ·have := hg.size; simp at this; omega
 ·intro k hk hne
  rw [hg.block k (by simp; omega) hne]
  exact Below.heap_alloc _ _ _ hk
end Go.Proofs.Ytjmeakfjfpnciaa
namespace Go.Proofs.Ytjmeakfjfpnciaa
open Go.RowKit
structure Kept (P : Nat → Prop) (w0 w : World) : Prop where
 os : w.os = w0.os
 tape : w.tape = w0.tape
 output : w.output = w0.output
 size : w0.heap.size ≤ w.heap.size
 block : ∀ q, q < w0.heap.size → ¬ P q → w.heap[q]? = w0.heap[q]?
section
variable {P : Nat → Prop} {b c n gb : Nat} {w0 w w1 : World} {r : Option Nat} {t : TypeId} {cs : List Value} {G : GP}
theorem Kept.refl (P : Nat → Prop) (w : World) : Kept P w w := ⟨rfl, rfl, rfl, Nat.le_refl _, fun _ _ _ => rfl⟩
theorem Kept.grown (h : Kept P w0 w) (hg : w.grownBy w1 r) (hr : ∀ q, r = some q → w0.heap.size ≤ q ∨ P q) : Kept P w0 w1 :=
 ⟨hg.os.trans h.os, hg.tape.trans h.tape, hg.output.trans h.output, Nat.le_trans h.size hg.size, fun q hq hne => (hg.block q (Nat.lt_of_lt_of_le hq h.size) (fun e => by
  rcases hr q e.symm with h1 | h1
  ·omega
  ·exact hne h1)).trans (h.block q hq hne)⟩
theorem Kept.up (h : Kept P w0 w) (hb : Below w.heap.size w w1) : Kept P w0 w1 := h.grown (below_grown hb) (fun q e => by cases e)
theorem Kept.trans {w2 : World} (h : Kept P w0 w) (h1 : Kept P w w2) : Kept P w0 w2 :=
 ⟨h1.os.trans h.os, h1.tape.trans h.tape, h1.output.trans h.output, Nat.le_trans h.size h1.size, fun q hq hne => (h1.block q (Nat.lt_of_lt_of_le hq h.size) hne).trans (h.block q hq hne)⟩
theorem Sl.kept {a : Option Addr} (h : Sl w0 w0.heap.size a cs) (hk : Kept P w0 w) (hne : ∀ x, a = some x → ¬ P x.block) : Sl w w.heap.size a cs := by
 rcases h with h | ⟨q, off, rfl, hq, hc⟩
 ·exact Or.inl h
 ·refine Or.inr ⟨q, off, rfl, Nat.lt_of_lt_of_le hq hk.size, fun i v hv => ?_⟩
  rw [cell_of_block (hk.block q hq (hne _ rfl))]
  exact hc i v hv
theorem Bx.keptP (h : Bx w0 b t cs) (hk : Kept P w0 w) (hne : ¬ P b) : Bx w b t cs := (hk.block b h.lt hne).trans h
theorem Below.keptP {W : World} (h : Below n W w0) (hk : Kept P w0 w) (hn : n ≤ w0.heap.size) (hp : ∀ q, P q → n ≤ q) : Below n W w := by
 refine ⟨hk.os.trans h.os, hk.tape.trans h.tape, hk.output.trans h.output, Nat.le_trans h.size hk.size, fun q hq => ?_⟩
 rw [hk.block q (by omega) (fun e => by have := hp q e; omega)]
 exact h.block q hq
end
end Go.Proofs.Ytjmeakfjfpnciaa
namespace Go.Proofs.Ytjmeakfjfpnciaa
open Go.RowKit
theorem turn_nat (x : BitVec 32) (n : Nat) (h0 : n = 16 ∨ n = 12 ∨ n = 8 ∨ n = 7) : x.toNat / 2 ^ n ||| x.toNat * 2 ^ (32 - n) % 4294967296 = (rotB x n).toNat := by
 rw [← rot_or x n h0, BitVec.toNat_or, BitVec.toNat_ushiftRight, BitVec.toNat_shiftLeft, Nat.shiftRight_eq_div_pow, Nat.shiftLeft_eq]
theorem turn_any (x : BitVec 32) (n : Nat) (h0 : n = 16 ∨ n = 12 ∨ n = 8 ∨ n = 7) (w : World) : Calls Try.prog 216 #[.int .u32 (x.toNat : Int), .int .i64 (n : Int)] w fun e w' => e = .returned (.int .u32 ((rotB x n).toNat : Int)) ∧ Below w.heap.size w w' := by
 have hx := x.isLt
 have ht := turn_nat x n h0
 have HB := Lib.hid (bits_or (x.toNat / 2 ^ n) (x.toNat * 2 ^ (32 - n) % 4294967296) (Nat.lt_of_le_of_lt (Nat.div_le_self _ _) hx) (Nat.mod_lt _ (by decide)))
 rw [ht] at HB
 have HBo := HB.out
 clear ht HB
 rcases h0 with rfl | rfl | rfl | rfl <;> simp at HBo
 all_goals
  go_enter Try.func216, Try.ntmps216
  go_wp2_with fail
  refine wp_region_over (by kernel_rfl) (by kernel_rfl) ?_
  repeat (go_big_quiet_step (first | fail))
  all_goals (try unfold elV limbV)
  repeat (go_big_quiet_step (first | fail))
  all_goals (try unfold elV limbV)
  repeat (go_big_quiet_step (first | fail))
  all_goals (try unfold ciphV)
  refine wpQuiet_nil ?_
  rintro _ ⟨E, rfl⟩
  have HB := Lib.hid E.h
  have HZS := Lib.hid E.h.size
  obtain ⟨w1, hq9⟩ : ∃ W9 : World, E.w = W9 := ⟨_, rfl⟩
  rw [hq9] at HB HZS ⊢
  clear hq9 E
  go_wp2_with fail
  go_ret
  exact ⟨rfl, HB.out⟩
def ordB : ByteArray := ⟨#[48, 49, 50, 51, 52, 53, 54, 55, 56, 57, 97, 98, 99, 100, 101, 102, 101, 97, 52, 56, 57, 102, 100, 54, 49, 99, 48, 50, 98, 55, 53, 51, 98, 56, 99, 48, 53, 50, 102, 100, 97, 101, 51, 54, 55, 49, 57, 52, 55, 57, 51, 49, 100, 99, 98, 101, 50, 54, 53, 97, 52, 48, 102, 56, 57, 48, 53, 55, 50, 52, 97, 102, 101, 49, 98, 99, 54, 56, 51, 100, 50, 99, 54, 97, 48, 98, 56, 51, 52, 100, 55, 53, 102, 101, 49, 57, 99, 53, 49, 102, 101, 100, 52, 97, 48, 55, 54, 51, 57, 50, 56, 98, 100, 98, 55, 101, 99, 49, 51, 57, 53, 48, 102, 52, 56, 54, 50, 97, 54, 102, 101, 57, 98, 51, 48, 56, 99, 50, 100, 55, 49, 52, 97, 53, 97, 50, 56, 52, 55, 54, 49, 53, 102, 98, 57, 101, 51, 99, 100, 48]⟩
theorem ord_tab : ∀ k : Fin 160, (ordB.data.getD k.1 0).toNat = if ordN (k.1 / 16) (k.1 % 16) < 10 then 48 + ordN (k.1 / 16) (k.1 % 16) else 87 + ordN (k.1 / 16) (k.1 % 16) := by decide +kernel
theorem ord_lt : ∀ k : Fin 160, ordN (k.1 / 16) (k.1 % 16) < 16 := by decide +kernel
theorem ordN_lt {r i : Nat} (hr : r < 10) (hi : i < 16) : ordN r i < 16 := by
 have h := ord_lt ⟨16 * r + i, by omega⟩
 simp only at h
 rwa [show (16 * r + i) / 16 = r by omega, show (16 * r + i) % 16 = i by omega] at h
theorem place_at {r i : Nat} (hr : r < 10) (hi : i < 16) (h : 16 * r + i < ordB.size) : (ordB[16 * r + i].toNat : Int) = if ordN r i < 10 then 48 + (ordN r i : Int) else 87 + (ordN r i : Int) := by
 have h1 := ord_tab ⟨16 * r + i, by omega⟩
 simp only at h1
 rw [show (16 * r + i) / 16 = r by omega, show (16 * r + i) % 16 = i by omega] at h1
 have e : ordB[16 * r + i] = ordB.data.getD (16 * r + i) 0 := by
  show ordB.data[16 * r + i]'h = _
  unfold Array.getD
  exact (dif_pos h).symm
 rw [e, h1]
 split <;> simp
theorem place_lo {r i : Nat} (hr : r < 10) (hi : i < 16) (h : 16 * r + i < ordB.size) (hc : (ordB[16 * r + i].toNat : Int) < 97) : ((ordB[16 * r + i].toNat : Int) - 48) % 256 = (ordN r i : Int) := by
 rw [place_at hr hi h] at *
 have := ordN_lt hr hi
 split at * <;> omega
theorem place_hi {r i : Nat} (hr : r < 10) (hi : i < 16) (h : 16 * r + i < ordB.size) (hc : 97 ≤ (ordB[16 * r + i].toNat : Int)) : ((ordB[16 * r + i].toNat : Int) - 97) % 256 + 10 = (ordN r i : Int) := by
 rw [place_at hr hi h] at *
 have := ordN_lt hr hi
 split at * <;> omega
theorem place_any (r i : Nat) (hr : r < 10) (hi : i < 16) (w : World) : Calls Try.prog 214 #[.int .i64 (r : Int), .int .i64 (i : Int)] w fun e w' => e = .returned (.int .i64 (ordN r i : Int)) ∧ Below w.heap.size w w' := by
 go_enter Try.func214, Try.ntmps214
 go_wp2_with fail
 ·go_ret
  exact ⟨ret_int (place_hi hr hi (show 16 * r + i < 160 by omega) (by assumption)), Below.refl _ _⟩
 ·go_ret
  exact ⟨ret_int (place_lo hr hi (show 16 * r + i < 160 by omega) (by assumption)), Below.refl _ _⟩
theorem corners_any (pb i : Nat) (hi : i < 8) (w : World) : Calls Try.prog 215 #[.pointer (some ⟨pb, 0, none⟩), .int .i64 (i : Int)] w fun e w' => e = .returned (.tuple #[.pointer (some ⟨pb, cA i, none⟩), .pointer (some ⟨pb, cB i, none⟩), .pointer (some ⟨pb, cC i, none⟩), .pointer (some ⟨pb, cD i, none⟩)]) ∧ Below w.heap.size w w' := by
 have h8 : i = 0 ∨ i = 1 ∨ i = 2 ∨ i = 3 ∨ i = 4 ∨ i = 5 ∨ i = 6 ∨ i = 7 := by omega
 clear hi
 rcases h8 with rfl | rfl | rfl | rfl | rfl | rfl | rfl | rfl
 all_goals
  go_enter Try.func215, Try.ntmps215
  go_wp2_with fail
  refine wp_region_over (by kernel_rfl) (by kernel_rfl) ?_
  repeat (go_big_quiet_step (first | fail))
  all_goals (try unfold elV limbV)
  repeat (go_big_quiet_step (first | fail))
  all_goals (try unfold elV limbV)
  repeat (go_big_quiet_step (first | fail))
  all_goals (try unfold ciphV)
  refine wpQuiet_nil ?_
  rintro _ ⟨E, rfl⟩
  have HB := Lib.hid E.h
  have HZS := Lib.hid E.h.size
  obtain ⟨w1, hq9⟩ : ∃ W9 : World, E.w = W9 := ⟨_, rfl⟩
  rw [hq9] at HB HZS ⊢
  clear hq9 E
  go_wp2_with fail
  simp [bodyPost, results, Try.results215, go_sem, cA, cB, cC, cD]
  exact HB.out
structure W4 (l : WL) (A B C D : Nat) (a b c d : BitVec 32) : Prop where
 len : l.length = 16
 bd : A < 4 ∧ 4 ≤ B ∧ B < 8 ∧ 8 ≤ C ∧ C < 12 ∧ 12 ≤ D ∧ D < 16
 ha : l.getD A 0 = a
 hb : l.getD B 0 = b
 hc : l.getD C 0 = c
 hd : l.getD D 0 = d
section
variable {l : WL} {A B C D : Nat} {a b c d z : BitVec 32}
theorem W4.ca (h : W4 l A B C D a b c d) : (wlV l)[A]? = some (.int .u32 (a.toNat : Int)) := h.ha ▸ wlV_get l A (by have := h.len; have := h.bd; omega)
theorem W4.cb (h : W4 l A B C D a b c d) : (wlV l)[B]? = some (.int .u32 (b.toNat : Int)) := h.hb ▸ wlV_get l B (by have := h.len; have := h.bd; omega)
theorem W4.cc (h : W4 l A B C D a b c d) : (wlV l)[C]? = some (.int .u32 (c.toNat : Int)) := h.hc ▸ wlV_get l C (by have := h.len; have := h.bd; omega)
theorem W4.cd (h : W4 l A B C D a b c d) : (wlV l)[D]? = some (.int .u32 (d.toNat : Int)) := h.hd ▸ wlV_get l D (by have := h.len; have := h.bd; omega)
theorem set_same (l : WL) (k : Nat) (u : BitVec 32) (h : k < l.length) : (l.set k u).getD k 0 = u := by simp [List.getD, h]
theorem set_other (l : WL) (k j : Nat) (u : BitVec 32) (h : k ≠ j) : (l.set k u).getD j 0 = l.getD j 0 := by simp [List.getD, List.getElem?_set_ne h]
theorem W4.sa (h : W4 l A B C D a b c d) : W4 (l.set A z) A B C D z b c d := by
 have h1 := h.len; have h2 := h.bd
 exact ⟨by rw [List.length_set]; exact h1, h2, set_same _ _ _ (by omega), by rw [set_other _ _ _ _ (by omega)]; exact h.hb, by rw [set_other _ _ _ _ (by omega)]; exact h.hc, by rw [set_other _ _ _ _ (by omega)]; exact h.hd⟩
theorem W4.sb (h : W4 l A B C D a b c d) : W4 (l.set B z) A B C D a z c d := by
 have h1 := h.len; have h2 := h.bd
 exact ⟨by rw [List.length_set]; exact h1, h2, by rw [set_other _ _ _ _ (by omega)]; exact h.ha, set_same _ _ _ (by omega), by rw [set_other _ _ _ _ (by omega)]; exact h.hc, by rw [set_other _ _ _ _ (by omega)]; exact h.hd⟩
theorem W4.sc (h : W4 l A B C D a b c d) : W4 (l.set C z) A B C D a b z d := by
 have h1 := h.len; have h2 := h.bd
 exact ⟨by rw [List.length_set]; exact h1, h2, by rw [set_other _ _ _ _ (by omega)]; exact h.ha, by rw [set_other _ _ _ _ (by omega)]; exact h.hb, set_same _ _ _ (by omega), by rw [set_other _ _ _ _ (by omega)]; exact h.hd⟩
theorem W4.sd (h : W4 l A B C D a b c d) : W4 (l.set D z) A B C D a b c z := by
 have h1 := h.len; have h2 := h.bd
 exact ⟨by rw [List.length_set]; exact h1, h2, by rw [set_other _ _ _ _ (by omega)]; exact h.ha, by rw [set_other _ _ _ _ (by omega)]; exact h.hb, by rw [set_other _ _ _ _ (by omega)]; exact h.hc, set_same _ _ _ (by omega)⟩
theorem Bx.wset {W : World} {b i : Nat} {t : TypeId} {l : WL} {x : BitVec 32} (h : Bx W b t ((wlV l).set i (.int .u32 (x.toNat : Int)))) : Bx W b t (wlV (l.set i x)) := wlV_set l i x ▸ h
end
theorem quarter_any (m v : WL) (r i : Nat) (hi : i < 8) (hv : v.length = 16) (pb : Nat) (w : World) (hp : Bx w pb 287 (wlV v)) :
  Calls Try.prog 213 #[.pointer (some ⟨pb, 0, none⟩), .int .i64 (i : Int), .int .u32 ((m.getD (ordN r (2 * i)) 0).toNat : Int), .int .u32 ((m.getD (ordN r (2 * i + 1)) 0).toNat : Int)] w
   fun e w' => e = .returned (.tuple #[]) ∧ Bx w' pb 287 (wlV (quartB m v r i)) ∧ Kept (fun q => q = pb) w w' := by
 have hq := quart_words m v r i hv _ _ _ _ _ _ rfl rfl rfl rfl rfl rfl
 have HC := Lib.hid (fun w => corners_any pb i hi w)
 have HW := Lib.hid (show W4 v (cA i) (cB i) (cC i) (cD i) _ _ _ _ from ⟨hv, by unfold cA cB cC cD; omega, rfl, rfl, rfl, rfl⟩)
 generalize quartB m v r i = V at *
 generalize m.getD (ordN r (2 * i)) 0 = x at *
 generalize m.getD (ordN r (2 * i + 1)) 0 = y at *
 generalize v.getD (cA i) 0 = a at *
 generalize v.getD (cB i) 0 = b at *
 generalize v.getD (cC i) 0 = c at *
 generalize v.getD (cD i) 0 = d at *
 generalize cA i = A at *
 generalize cB i = B at *
 generalize cC i = C at *
 generalize cD i = D at *
 have HQ := Lib.hid hq
 have Hp := Lib.hid hp
 clear hp hv hi hq
 go_enter Try.func213, Try.ntmps213
 go_wp2_with fail
 have HK := Lib.hid (Kept.refl (fun q9 => q9 = pb) w)
 refine (HC.out w).mono ?_
 rintro e w1 ⟨rfl, hb9⟩
 replace Hp := Lib.hid (Hp.out.up hb9)
 replace HK := Lib.hid (Kept.up HK.out hb9)
 have HZS := Lib.hid hb9.size
 clear hb9
 go_wp2_with fail
 have g1 := add32 b x
 obtain ⟨za1, e0⟩ : ∃ z, b + x = z := ⟨_, rfl⟩
 rw [e0] at g1
 have g2 := add32 a za1
 obtain ⟨a1, e1⟩ : ∃ z, a + za1 = z := ⟨_, rfl⟩
 rw [e1] at g2
 have Eza1 := Lib.hid e0
 have Ea1 := Lib.hid e1
 clear e1 e0
 have hlp := Hp.out.lt
 have hcA := Hp.out.cell HW.out.ca
 have hcB := Hp.out.cell HW.out.cb
 have hcC := Hp.out.cell HW.out.cc
 have hcD := Hp.out.cell HW.out.cd
 refine wp_region_otail 10 (by kernel_rfl) (by kernel_rfl) ?_
 simp only [List.take_succ_cons, List.take_zero, List.drop_succ_cons, List.drop_zero]
 have hov_pb := fun (E : Over w1) o => E.cell (b := pb) o hlp
 repeat (go_big_quiet_step (first | fail))
 all_goals (try unfold elV limbV)
 repeat (go_big_quiet_step (first | fail))
 all_goals (try unfold elV limbV)
 repeat (go_big_quiet_step (first | fail))
 all_goals (try unfold ciphV)
 refine wpQuiet_nil ?_
 rintro _ ⟨E, rfl⟩
 clear hov_pb
 replace Hp := Lib.hid (Hp.out.up E.h)
 replace HK := Lib.hid (Kept.up HK.out E.h)
 replace HZS := sz HZS E.h.size
 obtain ⟨w2, hq9⟩ : ∃ W9 : World, E.w = W9 := ⟨_, rfl⟩
 rw [hq9] at Hp HK HZS ⊢
 clear hq9 E hcA hcB hcC hcD hlp
 have hcT := Hp.out.cell HW.out.ca
 have f3_p := Hp.out.frozen
 obtain ⟨w3, hq3, hg9, hz9, hx9⟩ := put1 Hp A (.int .u32 (a1.toNat : Int)) _ rfl
 replace HK := Lib.hid (Kept.grown HK.out hg9.out (fun q9 e9 => by obtain rfl := Option.some.inj e9; exact Or.inr (rfl)))
 replace HZS := sz HZS hz9.out
 replace Hp := hx9
 clear hx9 hg9 hz9
 replace Hp := Lib.hid Hp.out.wset
 replace HW := Lib.hid (HW.out.sa (z := a1))
 go_wp2_with fail
 clear hq3 f3_p hcT g1 g2
 have g1 := bits_xor d a1
 obtain ⟨zd1, e0⟩ : ∃ z, d ^^^ a1 = z := ⟨_, rfl⟩
 rw [e0] at g1
 obtain ⟨d1, e1⟩ : ∃ z, rotB zd1 16 = z := ⟨_, rfl⟩
 have HT := Lib.hid (fun w => turn_any zd1 16 (by omega) w)
 rw [e1] at HT
 have Ezd1 := Lib.hid e0
 have Ed1 := Lib.hid e1
 clear e1 e0
 have hlp := Hp.out.lt
 have hcA := Hp.out.cell HW.out.ca
 have hcB := Hp.out.cell HW.out.cb
 have hcC := Hp.out.cell HW.out.cc
 have hcD := Hp.out.cell HW.out.cd
 refine wp_region_otail 10 (by kernel_rfl) (by kernel_rfl) ?_
 simp only [List.take_succ_cons, List.take_zero, List.drop_succ_cons, List.drop_zero]
 have hov_pb := fun (E : Over w3) o => E.cell (b := pb) o hlp
 repeat (go_big_quiet_step (first | (go_at_call 216; exact calls_over (HT.out _))))
 all_goals (try unfold elV limbV)
 repeat (go_big_quiet_step (first | (go_at_call 216; exact calls_over (HT.out _))))
 all_goals (try unfold elV limbV)
 repeat (go_big_quiet_step (first | (go_at_call 216; exact calls_over (HT.out _))))
 all_goals (try unfold ciphV)
 refine wpQuiet_nil ?_
 rintro _ ⟨E, rfl⟩
 clear hov_pb
 replace Hp := Lib.hid (Hp.out.up E.h)
 replace HK := Lib.hid (Kept.up HK.out E.h)
 replace HZS := sz HZS E.h.size
 obtain ⟨w4, hq9⟩ : ∃ W9 : World, E.w = W9 := ⟨_, rfl⟩
 rw [hq9] at Hp HK HZS ⊢
 clear hq9 E hcA hcB hcC hcD hlp
 have hcT := Hp.out.cell HW.out.cd
 have f5_p := Hp.out.frozen
 obtain ⟨w5, hq5, hg9, hz9, hx9⟩ := put1 Hp D (.int .u32 (d1.toNat : Int)) _ rfl
 replace HK := Lib.hid (Kept.grown HK.out hg9.out (fun q9 e9 => by obtain rfl := Option.some.inj e9; exact Or.inr (rfl)))
 replace HZS := sz HZS hz9.out
 replace Hp := hx9
 clear hx9 hg9 hz9
 replace Hp := Lib.hid Hp.out.wset
 replace HW := Lib.hid (HW.out.sd (z := d1))
 go_wp2_with fail
 clear hq5 f5_p hcT g1 HT
 have g2 := add32 c d1
 obtain ⟨c1, e1⟩ : ∃ z, c + d1 = z := ⟨_, rfl⟩
 rw [e1] at g2
 have Ec1 := Lib.hid e1
 clear e1
 have hlp := Hp.out.lt
 have hcA := Hp.out.cell HW.out.ca
 have hcB := Hp.out.cell HW.out.cb
 have hcC := Hp.out.cell HW.out.cc
 have hcD := Hp.out.cell HW.out.cd
 refine wp_region_otail 8 (by kernel_rfl) (by kernel_rfl) ?_
 simp only [List.take_succ_cons, List.take_zero, List.drop_succ_cons, List.drop_zero]
 have hov_pb := fun (E : Over w5) o => E.cell (b := pb) o hlp
 repeat (go_big_quiet_step (first | fail))
 all_goals (try unfold elV limbV)
 repeat (go_big_quiet_step (first | fail))
 all_goals (try unfold elV limbV)
 repeat (go_big_quiet_step (first | fail))
 all_goals (try unfold ciphV)
 refine wpQuiet_nil ?_
 rintro _ ⟨E, rfl⟩
 clear hov_pb
 replace Hp := Lib.hid (Hp.out.up E.h)
 replace HK := Lib.hid (Kept.up HK.out E.h)
 replace HZS := sz HZS E.h.size
 obtain ⟨w6, hq9⟩ : ∃ W9 : World, E.w = W9 := ⟨_, rfl⟩
 rw [hq9] at Hp HK HZS ⊢
 clear hq9 E hcA hcB hcC hcD hlp
 have hcT := Hp.out.cell HW.out.cc
 have f7_p := Hp.out.frozen
 obtain ⟨w7, hq7, hg9, hz9, hx9⟩ := put1 Hp C (.int .u32 (c1.toNat : Int)) _ rfl
 replace HK := Lib.hid (Kept.grown HK.out hg9.out (fun q9 e9 => by obtain rfl := Option.some.inj e9; exact Or.inr (rfl)))
 replace HZS := sz HZS hz9.out
 replace Hp := hx9
 clear hx9 hg9 hz9
 replace Hp := Lib.hid Hp.out.wset
 replace HW := Lib.hid (HW.out.sc (z := c1))
 go_wp2_with fail
 clear hq7 f7_p hcT g2
 have g1 := bits_xor b c1
 obtain ⟨zb1, e0⟩ : ∃ z, b ^^^ c1 = z := ⟨_, rfl⟩
 rw [e0] at g1
 obtain ⟨b1, e1⟩ : ∃ z, rotB zb1 12 = z := ⟨_, rfl⟩
 have HT := Lib.hid (fun w => turn_any zb1 12 (by omega) w)
 rw [e1] at HT
 have Ezb1 := Lib.hid e0
 have Eb1 := Lib.hid e1
 clear e1 e0
 have hlp := Hp.out.lt
 have hcA := Hp.out.cell HW.out.ca
 have hcB := Hp.out.cell HW.out.cb
 have hcC := Hp.out.cell HW.out.cc
 have hcD := Hp.out.cell HW.out.cd
 refine wp_region_otail 10 (by kernel_rfl) (by kernel_rfl) ?_
 simp only [List.take_succ_cons, List.take_zero, List.drop_succ_cons, List.drop_zero]
 have hov_pb := fun (E : Over w7) o => E.cell (b := pb) o hlp
 repeat (go_big_quiet_step (first | (go_at_call 216; exact calls_over (HT.out _))))
 all_goals (try unfold elV limbV)
 repeat (go_big_quiet_step (first | (go_at_call 216; exact calls_over (HT.out _))))
 all_goals (try unfold elV limbV)
 repeat (go_big_quiet_step (first | (go_at_call 216; exact calls_over (HT.out _))))
 all_goals (try unfold ciphV)
 refine wpQuiet_nil ?_
 rintro _ ⟨E, rfl⟩
 clear hov_pb
 replace Hp := Lib.hid (Hp.out.up E.h)
 replace HK := Lib.hid (Kept.up HK.out E.h)
 replace HZS := sz HZS E.h.size
 obtain ⟨w8, hq9⟩ : ∃ W9 : World, E.w = W9 := ⟨_, rfl⟩
 rw [hq9] at Hp HK HZS ⊢
 clear hq9 E hcA hcB hcC hcD hlp
 have hcT := Hp.out.cell HW.out.cb
 have f9_p := Hp.out.frozen
 obtain ⟨w9, hq9, hg9, hz9, hx9⟩ := put1 Hp B (.int .u32 (b1.toNat : Int)) _ rfl
 replace HK := Lib.hid (Kept.grown HK.out hg9.out (fun q9 e9 => by obtain rfl := Option.some.inj e9; exact Or.inr (rfl)))
 replace HZS := sz HZS hz9.out
 replace Hp := hx9
 clear hx9 hg9 hz9
 replace Hp := Lib.hid Hp.out.wset
 replace HW := Lib.hid (HW.out.sb (z := b1))
 go_wp2_with fail
 clear hq9 f9_p hcT g1 HT
 have g1 := add32 b1 y
 obtain ⟨za2, e0⟩ : ∃ z, b1 + y = z := ⟨_, rfl⟩
 rw [e0] at g1
 have g2 := add32 a1 za2
 obtain ⟨a2, e1⟩ : ∃ z, a1 + za2 = z := ⟨_, rfl⟩
 rw [e1] at g2
 have Eza2 := Lib.hid e0
 have Ea2 := Lib.hid e1
 clear e1 e0
 have hlp := Hp.out.lt
 have hcA := Hp.out.cell HW.out.ca
 have hcB := Hp.out.cell HW.out.cb
 have hcC := Hp.out.cell HW.out.cc
 have hcD := Hp.out.cell HW.out.cd
 refine wp_region_otail 10 (by kernel_rfl) (by kernel_rfl) ?_
 simp only [List.take_succ_cons, List.take_zero, List.drop_succ_cons, List.drop_zero]
 have hov_pb := fun (E : Over w9) o => E.cell (b := pb) o hlp
 repeat (go_big_quiet_step (first | fail))
 all_goals (try unfold elV limbV)
 repeat (go_big_quiet_step (first | fail))
 all_goals (try unfold elV limbV)
 repeat (go_big_quiet_step (first | fail))
 all_goals (try unfold ciphV)
 refine wpQuiet_nil ?_
 rintro _ ⟨E, rfl⟩
 clear hov_pb
 replace Hp := Lib.hid (Hp.out.up E.h)
 replace HK := Lib.hid (Kept.up HK.out E.h)
 replace HZS := sz HZS E.h.size
 obtain ⟨w10, hq9⟩ : ∃ W9 : World, E.w = W9 := ⟨_, rfl⟩
 rw [hq9] at Hp HK HZS ⊢
 clear hq9 E hcA hcB hcC hcD hlp
 have hcT := Hp.out.cell HW.out.ca
 have f11_p := Hp.out.frozen
 obtain ⟨w11, hq11, hg9, hz9, hx9⟩ := put1 Hp A (.int .u32 (a2.toNat : Int)) _ rfl
 replace HK := Lib.hid (Kept.grown HK.out hg9.out (fun q9 e9 => by obtain rfl := Option.some.inj e9; exact Or.inr (rfl)))
 replace HZS := sz HZS hz9.out
 replace Hp := hx9
 clear hx9 hg9 hz9
 replace Hp := Lib.hid Hp.out.wset
 replace HW := Lib.hid (HW.out.sa (z := a2))
 go_wp2_with fail
 clear hq11 f11_p hcT g1 g2
 have g1 := bits_xor d1 a2
 obtain ⟨zd2, e0⟩ : ∃ z, d1 ^^^ a2 = z := ⟨_, rfl⟩
 rw [e0] at g1
 obtain ⟨d2, e1⟩ : ∃ z, rotB zd2 8 = z := ⟨_, rfl⟩
 have HT := Lib.hid (fun w => turn_any zd2 8 (by omega) w)
 rw [e1] at HT
 have Ezd2 := Lib.hid e0
 have Ed2 := Lib.hid e1
 clear e1 e0
 have hlp := Hp.out.lt
 have hcA := Hp.out.cell HW.out.ca
 have hcB := Hp.out.cell HW.out.cb
 have hcC := Hp.out.cell HW.out.cc
 have hcD := Hp.out.cell HW.out.cd
 refine wp_region_otail 10 (by kernel_rfl) (by kernel_rfl) ?_
 simp only [List.take_succ_cons, List.take_zero, List.drop_succ_cons, List.drop_zero]
 have hov_pb := fun (E : Over w11) o => E.cell (b := pb) o hlp
 repeat (go_big_quiet_step (first | (go_at_call 216; exact calls_over (HT.out _))))
 all_goals (try unfold elV limbV)
 repeat (go_big_quiet_step (first | (go_at_call 216; exact calls_over (HT.out _))))
 all_goals (try unfold elV limbV)
 repeat (go_big_quiet_step (first | (go_at_call 216; exact calls_over (HT.out _))))
 all_goals (try unfold ciphV)
 refine wpQuiet_nil ?_
 rintro _ ⟨E, rfl⟩
 clear hov_pb
 replace Hp := Lib.hid (Hp.out.up E.h)
 replace HK := Lib.hid (Kept.up HK.out E.h)
 replace HZS := sz HZS E.h.size
 obtain ⟨w12, hq9⟩ : ∃ W9 : World, E.w = W9 := ⟨_, rfl⟩
 rw [hq9] at Hp HK HZS ⊢
 clear hq9 E hcA hcB hcC hcD hlp
 have hcT := Hp.out.cell HW.out.cd
 have f13_p := Hp.out.frozen
 obtain ⟨w13, hq13, hg9, hz9, hx9⟩ := put1 Hp D (.int .u32 (d2.toNat : Int)) _ rfl
 replace HK := Lib.hid (Kept.grown HK.out hg9.out (fun q9 e9 => by obtain rfl := Option.some.inj e9; exact Or.inr (rfl)))
 replace HZS := sz HZS hz9.out
 replace Hp := hx9
 clear hx9 hg9 hz9
 replace Hp := Lib.hid Hp.out.wset
 replace HW := Lib.hid (HW.out.sd (z := d2))
 go_wp2_with fail
 clear hq13 f13_p hcT g1 HT
 have g2 := add32 c1 d2
 obtain ⟨c2, e1⟩ : ∃ z, c1 + d2 = z := ⟨_, rfl⟩
 rw [e1] at g2
 have Ec2 := Lib.hid e1
 clear e1
 have hlp := Hp.out.lt
 have hcA := Hp.out.cell HW.out.ca
 have hcB := Hp.out.cell HW.out.cb
 have hcC := Hp.out.cell HW.out.cc
 have hcD := Hp.out.cell HW.out.cd
 refine wp_region_otail 8 (by kernel_rfl) (by kernel_rfl) ?_
 simp only [List.take_succ_cons, List.take_zero, List.drop_succ_cons, List.drop_zero]
 have hov_pb := fun (E : Over w13) o => E.cell (b := pb) o hlp
 repeat (go_big_quiet_step (first | fail))
 all_goals (try unfold elV limbV)
 repeat (go_big_quiet_step (first | fail))
 all_goals (try unfold elV limbV)
 repeat (go_big_quiet_step (first | fail))
 all_goals (try unfold ciphV)
 refine wpQuiet_nil ?_
 rintro _ ⟨E, rfl⟩
 clear hov_pb
 replace Hp := Lib.hid (Hp.out.up E.h)
 replace HK := Lib.hid (Kept.up HK.out E.h)
 replace HZS := sz HZS E.h.size
 obtain ⟨w14, hq9⟩ : ∃ W9 : World, E.w = W9 := ⟨_, rfl⟩
 rw [hq9] at Hp HK HZS ⊢
 clear hq9 E hcA hcB hcC hcD hlp
 have hcT := Hp.out.cell HW.out.cc
 have f15_p := Hp.out.frozen
 obtain ⟨w15, hq15, hg9, hz9, hx9⟩ := put1 Hp C (.int .u32 (c2.toNat : Int)) _ rfl
 replace HK := Lib.hid (Kept.grown HK.out hg9.out (fun q9 e9 => by obtain rfl := Option.some.inj e9; exact Or.inr (rfl)))
 replace HZS := sz HZS hz9.out
 replace Hp := hx9
 clear hx9 hg9 hz9
 replace Hp := Lib.hid Hp.out.wset
 replace HW := Lib.hid (HW.out.sc (z := c2))
 go_wp2_with fail
 clear hq15 f15_p hcT g2
 have g1 := bits_xor b1 c2
 obtain ⟨zb2, e0⟩ : ∃ z, b1 ^^^ c2 = z := ⟨_, rfl⟩
 rw [e0] at g1
 obtain ⟨b2, e1⟩ : ∃ z, rotB zb2 7 = z := ⟨_, rfl⟩
 have HT := Lib.hid (fun w => turn_any zb2 7 (by omega) w)
 rw [e1] at HT
 have Ezb2 := Lib.hid e0
 have Eb2 := Lib.hid e1
 clear e1 e0
 have hlp := Hp.out.lt
 have hcA := Hp.out.cell HW.out.ca
 have hcB := Hp.out.cell HW.out.cb
 have hcC := Hp.out.cell HW.out.cc
 have hcD := Hp.out.cell HW.out.cd
 refine wp_region_otail 10 (by kernel_rfl) (by kernel_rfl) ?_
 simp only [List.take_succ_cons, List.take_zero, List.drop_succ_cons, List.drop_zero]
 have hov_pb := fun (E : Over w15) o => E.cell (b := pb) o hlp
 repeat (go_big_quiet_step (first | (go_at_call 216; exact calls_over (HT.out _))))
 all_goals (try unfold elV limbV)
 repeat (go_big_quiet_step (first | (go_at_call 216; exact calls_over (HT.out _))))
 all_goals (try unfold elV limbV)
 repeat (go_big_quiet_step (first | (go_at_call 216; exact calls_over (HT.out _))))
 all_goals (try unfold ciphV)
 refine wpQuiet_nil ?_
 rintro _ ⟨E, rfl⟩
 clear hov_pb
 replace Hp := Lib.hid (Hp.out.up E.h)
 replace HK := Lib.hid (Kept.up HK.out E.h)
 replace HZS := sz HZS E.h.size
 obtain ⟨w16, hq9⟩ : ∃ W9 : World, E.w = W9 := ⟨_, rfl⟩
 rw [hq9] at Hp HK HZS ⊢
 clear hq9 E hcA hcB hcC hcD hlp
 have hcT := Hp.out.cell HW.out.cb
 have f17_p := Hp.out.frozen
 obtain ⟨w17, hq17, hg9, hz9, hx9⟩ := put1 Hp B (.int .u32 (b2.toNat : Int)) _ rfl
 replace HK := Lib.hid (Kept.grown HK.out hg9.out (fun q9 e9 => by obtain rfl := Option.some.inj e9; exact Or.inr (rfl)))
 replace HZS := sz HZS hz9.out
 replace Hp := hx9
 clear hx9 hg9 hz9
 replace Hp := Lib.hid Hp.out.wset
 replace HW := Lib.hid (HW.out.sb (z := b2))
 go_wp2_with fail
 clear hq17 f17_p hcT g1 HT
 go_end0
 have h := HQ.out
 rw [BitVec.add_assoc a b x, Eza1.out, Ea1.out, Ezd1.out, Ed1.out, Ec1.out, Ezb1.out, Eb1.out, BitVec.add_assoc a1 b1 y, Eza2.out, Ea2.out, Ezd2.out, Ed2.out, Ec2.out, Ezb2.out, Eb2.out] at h
 exact ⟨rfl, h ▸ Hp.out, HK.out⟩
end Go.Proofs.Ytjmeakfjfpnciaa
namespace Go.Proofs.Ytjmeakfjfpnciaa
open Go.RowKit
def putL (cs : List Value) (o : Nat) : List Value → List Value
 | [] => cs
 | v :: vs => putL (cs.set o v) (o + 1) vs
theorem putL_eq : ∀ (vs cs : List Value) (o : Nat), o + vs.length ≤ cs.length → putL cs o vs = cs.take o ++ vs ++ cs.drop (o + vs.length)
 | [], cs, o, _ => by simp [putL]
 | v :: vs, cs, o, h => by
   rw [List.length_cons] at h
   rw [putL, putL_eq vs _ _ (by rw [List.length_set]; omega)]
   have h1 : (cs.set o v).take (o + 1) = cs.take o ++ [v] := by
    rw [List.take_succ_eq_append_getElem (by rw [List.length_set]; omega), List.take_set_of_le (Nat.le_refl _), List.getElem_set_self]
   have h2 : (cs.set o v).drop (o + 1 + vs.length) = cs.drop (o + (v :: vs).length) := by
    rw [List.drop_set_of_lt (by omega), List.length_cons, show o + 1 + vs.length = o + (vs.length + 1) by omega]
   rw [h1, h2]
   simp
theorem putL_all (cs vs : List Value) (h : vs.length = cs.length) : putL cs 0 vs = vs := by
 rw [putL_eq _ _ _ (by omega)]
 simp [h]
section
variable {W w0 w : World} {b o n : Nat} {t : TypeId} {cs vs : List Value} {P : Program}
theorem Bx.range (h : Bx W b t cs) : W.rangeAt b 0 cs := fun j v hv => by rw [Nat.zero_add]; exact h.cell hv
theorem Bx.part {as1 bs : List Value} (h : Bx W b t (as1 ++ (cs ++ bs))) (ho : as1.length = o) : W.rangeAt b o cs := fun j v hv => h.cell (by
 have hj := (List.getElem?_eq_some_iff.1 hv).1
 rw [List.getElem?_append_right (by omega), show o + j - as1.length = j by omega, List.getElem?_append_left hj, hv])
theorem Bx.there (h : Bx W b t cs) (hn : o + n ≤ cs.length) : W.there b o n := fun j hj => ⟨by rw [h.cell (List.getElem?_eq_getElem (show o + j < cs.length by omega))]; rfl, h.frozen _⟩
theorem Bx.put : ∀ (vs : List Value) {W : World} {cs : List Value} {o : Nat}, Bx W b t cs → Bx (W.setCells b o vs) b t (putL cs o vs)
 | [], _, _, _, h => h
 | v :: vs, _, _, _, h => Bx.put vs (h.set _ v)
theorem grown_put (b : Nat) : ∀ (vs : List Value) (W : World) (o : Nat), W.grownBy (W.setCells b o vs) (some b)
 | [], W, _ => ⟨rfl, rfl, rfl, Nat.le_refl _, fun _ _ _ => rfl⟩
 | v :: vs, W, o => (grown_set W b o v).trans (grown_put b vs _ _)
theorem size_put (b : Nat) : ∀ (vs : List Value) (W : World) (o : Nat), (W.setCells b o vs).heap.size = W.heap.size
 | [], _, _ => rfl
 | v :: vs, W, o => by
   show ((W.setCell ⟨b, o, none⟩ v).setCells b (o + 1) vs).heap.size = _
   rw [size_put b vs]
   simp [World.setCell]
theorem puts (h : Hid (Bx W b t cs)) (o : Nat) (vs cs' : List Value) (hc : putL cs o vs = cs') : ∃ W', W.setCells b o vs = W' ∧ Hid (W.grownBy W' (some b)) ∧ Hid (W'.heap.size = W.heap.size) ∧ Hid (Bx W' b t cs') :=
 ⟨_, rfl, Lib.hid (grown_put b vs W o), Lib.hid (size_put b vs W o), Lib.hid (hc ▸ h.out.put vs)⟩
theorem wp_store_new {op : Oper} {a : Act} {K : Act → World → Prop} {Q : Exit → Act → World → Prop} (ty t : TypeId) (x y : Operand) (ho : op.op = .store ty x y) (c c' : List Value)
  (hx : a.eval x = .pointer (some ⟨w.heap.size, 0, none⟩)) (hy : a.eval y = .agg c'.toArray) (hi : (P.info? ty).map (·.size) = some c'.length) (hc : c.length = c'.length) (h1 : ∀ v ∈ c', v.oneCell' = true)
  (h : K (a.put op.dst undef) (w.alloc (.cells c'.toArray t))) : op.wp P a (w.alloc (.cells c.toArray t)) K Q := by
 refine wp_store_mid ty x y ho w.heap.size 0 c'.toArray hx hy ?_ (by simpa using hi) (all_oneCell_toArray h1) ?_
 ·have hb : Bx (w.alloc (.cells c.toArray t)) w.heap.size t c := Bx.new w t c _ rfl
  exact hb.there (by simp; omega)
 ·have hb : Bx (w.alloc (.cells c.toArray t)) w.heap.size t c := Bx.new w t c _ rfl
  have e : (w.alloc (.cells c.toArray t)).setCells w.heap.size 0 c' = w.alloc (.cells c'.toArray t) := by
   have key : ∀ (vs c : List Value) (o : Nat), (w.alloc (.cells c.toArray t)).setCells w.heap.size o vs = w.alloc (.cells (putL c o vs).toArray t) := by
    intro vs
    induction vs with
    | nil => intro c o; rfl
    | cons v vs ih =>
     intro c o
     show ((w.alloc (.cells c.toArray t)).setCell ⟨w.heap.size, o, none⟩ v).setCells w.heap.size (o + 1) vs = _
     rw [World.setCell_alloc_at _ _ _ _ _ rfl]
     simp only [List.setIfInBounds_toArray]
     exact ih _ _
   rw [key, putL_all _ _ hc.symm]
  simp only
  rw [e]
  exact h
theorem wpList_store_new {ops : Array Oper} {rest : List Oper} {op : Oper} {a : Act} {Q : Exit → Act → World → Prop} (hgd : op.guard = none) (ty t : TypeId) (x y : Operand) (ho : op.op = .store ty x y) (c c' : List Value)
  (hx : a.eval x = .pointer (some ⟨w.heap.size, 0, none⟩)) (hy : a.eval y = .agg c'.toArray) (hi : (P.info? ty).map (·.size) = some c'.length) (hc : c.length = c'.length) (h1 : ∀ v ∈ c', v.oneCell' = true)
  (h : wpList P ops Q rest (a.put op.dst undef) (w.alloc (.cells c'.toArray t))) : wpList P ops Q (op :: rest) a (w.alloc (.cells c.toArray t)) :=
 wpList_plain hgd fun _ hK => wp_store_new ty t x y ho c c' hx hy hi hc h1 (hK _ _ h)
theorem grown_row {g : Nat} (w : World) (cs : Array Value) : w.grownBy (w.setRow g cs) (some g) :=
 ⟨rfl, rfl, rfl, by simp [World.setRow], fun k _ hk => setRow_other w g k cs (fun e => hk (by rw [e]))⟩
theorem wpList_copyB {ops : Array Oper} {rest : List Oper} {op : Oper} {a : Act} {Q : Exit → Act → World → Prop} (hgd : op.guard = none) (d s : Operand) (dT sT : TypeId)
  (ho : op.op = .call { callee := .builtin .copy, args := #[d, s], argTypes := #[dT, sT] }) (elem : TypeId) (hu : P.underlying dT = some (.slice elem)) (hsz : (P.info? elem).map (·.size) = some 1)
  (g off dLen dCap : Nat) (ad : Addr) (sLen sCap : Nat) (hd : a.eval d = .slice (some ⟨g, off, none⟩) dLen dCap) (hs : a.eval s = .slice (some ad) sLen sCap)
  (cur : List Value) (t : TypeId) (hg : Bx w g t cur) (cs : List Value) (hn : cs.length = Nat.min sLen dLen)
  (hsrc : ∀ j v, cs[j]? = some v → w.cell? (ad.add j) = some v) (hfit : off + cs.length ≤ cur.length) (h1 : ∀ v ∈ cs, v.oneCell' = true) (cs' : List Value) (hc : putL cur off cs = cs')
  (h : ∀ w', Hid (w.grownBy w' (some g)) → Hid (w'.heap.size = w.heap.size) → Hid (Bx w' g t cs') → wpList P ops Q rest (a.put op.dst (goInt cs.length)) w') : wpList P ops Q (op :: rest) a w := by
 refine wpList_copy_own hgd d s dT sT ho elem hu hsz g off dLen dCap ad sLen sCap hd hs cur.toArray t hg cs hn hsrc (by simpa using hfit) h1 ?_
 refine h _ (Lib.hid (grown_row _ _)) (Lib.hid (by simp [World.setRow])) (Lib.hid ?_)
 show (w.setRow g _).heap[g]? = _
 rw [setRow_heap w g _ _ t _ hg, ← hc, putL_eq _ _ _ hfit]
 simp
theorem run_copy_str (w : World) (dT sT ty elem : TypeId) (g o dLen dCap : Nat) (s : ByteArray) (cur : Array Value) (t : TypeId)
  (hu : P.underlying dT = some (.slice elem)) (hs : (P.info? elem).map (·.size) = some 1) (hg : w.heap[g]? = some (.cells cur t (0, 0))) (hfit : o + dLen ≤ cur.size) :
  (Builtin.copy_ #[dT, sT] ty #[.slice (some ⟨g, o, none⟩) dLen dCap, .string s]).run P w =
   .ok (goInt (Nat.min s.size dLen)) (w.setRow g (cur.toList.take o ++ (Lib.byteCells s.data.toList).take dLen ++ cur.toList.drop (o + ((Lib.byteCells s.data.toList).take dLen).length)).toArray) := by
 have hlen : ((Lib.byteCells s.data.toList).take dLen).length = Nat.min s.size dLen := by
  rw [List.length_take, Lib.byteCells_length, ← Lib.size_eq, Nat.min_comm]
 have hst := run_storeCells_at P g o t ((Lib.byteCells s.data.toList).take dLen) 0 cur w hg (by rw [hlen]; have := Nat.min_le_right s.size dLen; simp only [Nat.add_zero]; exact Nat.le_trans (Nat.add_le_add_left this _) hfit) (fun v hv => Lib.byteCells_one _ v (List.mem_of_mem_take hv))
 have htk : List.take (Nat.min s.size dLen) (List.map (fun b : UInt8 => Value.int IntKind.u8 (b.toNat : Int)) s.data.toList) = (Lib.byteCells s.data.toList).take dLen := by
  unfold Lib.byteCells
  show List.take (min s.size dLen) _ = _
  rw [Nat.min_comm, ← List.take_take, List.take_of_length_le (i := s.size) (by rw [List.length_map, ← Lib.size_eq]; exact Nat.le_refl _)]
 simp only [Nat.add_zero] at hst
 cases hq : P.info? elem with
 | none => simp [hq] at hs
 | some i =>
  simp [Builtin.copy_, run_underlying hu, Builtin.lenOf, Builtin.firstCells, sizeOf, typeInfo, hq]
  rw [htk, hst]
  simp [Result.andThen]
theorem wpList_copyS {ops : Array Oper} {rest : List Oper} {op : Oper} {a : Act} {Q : Exit → Act → World → Prop} (hgd : op.guard = none) (d s : Operand) (dT sT : TypeId)
  (ho : op.op = .call { callee := .builtin .copy, args := #[d, s], argTypes := #[dT, sT] }) (elem : TypeId) (hu : P.underlying dT = some (.slice elem)) (hsz : (P.info? elem).map (·.size) = some 1)
  (g off dLen dCap : Nat) (x : ByteArray) (hd : a.eval d = .slice (some ⟨g, off, none⟩) dLen dCap) (hs : a.eval s = .string x)
  (cur : List Value) (t : TypeId) (hg : Bx w g t cur) (hfit : off + dLen ≤ cur.length) (cs' : List Value) (hc : putL cur off ((Lib.byteCells x.data.toList).take dLen) = cs')
  (h : ∀ w', Hid (w.grownBy w' (some g)) → Hid (w'.heap.size = w.heap.size) → Hid (Bx w' g t cs') → wpList P ops Q rest (a.put op.dst (goInt (Nat.min x.size dLen))) w') : wpList P ops Q (op :: rest) a w := by
 refine wpList_plain hgd fun K hK => ?_
 have hrun := run_copy_str (P := P) w dT sT op.type elem g off dLen dCap x cur.toArray t hu hsz hg (by simpa using hfit)
 have hl : off + ((Lib.byteCells x.data.toList).take dLen).length ≤ cur.length := by rw [List.length_take]; have := Nat.min_le_left dLen (Lib.byteCells x.data.toList).length; omega
 unfold Oper.wp
 simp [execOp, ho, resolve, invoke, builtin, hd, hs, hrun, Result.andThen]
 refine hK _ _ (h _ (Lib.hid (grown_row _ _)) (Lib.hid (by simp [World.setRow])) (Lib.hid ?_))
 show (w.setRow g _).heap[g]? = _
 rw [setRow_heap w g _ _ t _ hg, ← hc, putL_eq _ _ _ hl]
 simp
theorem wpList_clearB {ops : Array Oper} {rest : List Oper} {op : Oper} {a : Act} {Q : Exit → Act → World → Prop} (hgd : op.guard = none) (x : Operand) (T : TypeId)
  (ho : op.op = .call { callee := .builtin .clear, args := #[x], argTypes := #[T] }) (e : TypeId) (z : Value) (ht : P.underlying T = some (.slice e)) (hv : ∀ w, (zeroValue e).run P w = .ok z w) (hz : z.cells = #[z]) (h1 : z.oneCell' = true)
  (g off n c : Nat) (hx : a.eval x = .slice (some ⟨g, off, none⟩) n c) (cur : List Value) (t : TypeId) (hg : Bx w g t cur) (hfit : off + n ≤ cur.length) (cs' : List Value) (hc : putL cur off (List.replicate n z) = cs')
  (h : ∀ w', Hid (w.grownBy w' (some g)) → Hid (w'.heap.size = w.heap.size) → Hid (Bx w' g t cs') → wpList P ops Q rest (a.put op.dst (.tuple #[])) w') : wpList P ops Q (op :: rest) a w := by
 refine wpList_plain hgd fun K hK => ?_
 by_cases hn : n = 0
 ·subst hn
  have hrun : (Builtin.clear_ #[T] op.type #[.slice (some ⟨g, off, none⟩) 0 c]).run P w = .ok (.tuple #[]) w := by simp [Builtin.clear_, run_underlying ht]
  unfold Oper.wp
  simp [execOp, ho, resolve, invoke, builtin, hx, hrun, Result.andThen]
  exact hK _ _ (h w (Lib.hid ⟨rfl, rfl, rfl, Nat.le_refl _, fun _ _ _ => rfl⟩) (Lib.hid rfl) (Lib.hid (hc ▸ hg)))
 ·have hrun := Lib.run_clear_slice (P := P) w T e op.type z ht hv hz h1 g off n c (by omega) (fun j hj => (hg.there hfit j hj).1) (fun j hj => (hg.there hfit j hj).2)
  unfold Oper.wp
  simp [execOp, ho, resolve, invoke, builtin, hx, hrun, Result.andThen]
  exact hK _ _ (h _ (Lib.hid (grown_put g _ w off)) (Lib.hid (size_put g _ w off)) (Lib.hid (hc ▸ hg.put _)))
theorem wpQuiet_load {ops : Array Oper} {C : World → Prop} {Q : Act → Prop} {rest : List Oper} {op : Oper} {a : Act} (hgd : op.guard = none) (ty : TypeId) (x : Operand) (ho : op.op = .load ty x)
  (b o : Nat) (hx : a.eval x = .pointer (some ⟨b, o, none⟩)) (cs : List Value) (d : TypeDesc) (hC : ∀ w, C w → w.rangeAt b o cs) (hu : P.underlying ty = some d) (hd : d.isRow = true) (hi : (P.info? ty).map (·.size) = some cs.length)
  (h : wpQuiet P ops C Q rest (a.put op.dst (.agg cs.toArray))) : wpQuiet P ops C Q (op :: rest) a := by
 refine BigFrame.wpQuiet_want (by simp [Region.wanted, hgd]) fun K hK => ⟨_, fun w hw => ?_, hK _ h⟩
 unfold Oper.quietAt execOp
 simp only [ho, hx, Instr.loadAt, Instr.sureAddr, Sem.run_bind, Sem.run_pure, Result.andThen_ok, run_loadVar_mid w b o ty cs d (hC w hw) hu hd hi]
 exact ⟨rfl, rfl⟩
end
theorem ret_arr {P : Program} {fn : Func} {R : Ending → World → Prop} {a : Act} {w : World} {p : Tmp} {ty : TypeId} (h : fn.results = #[.cell p ty]) {b : Nat} {t : TypeId} {cs : List Value} (hb : Bx w b t cs) (d : TypeDesc)
  (hp : a.tmps.getD p undef = .pointer (some ⟨b, 0, none⟩)) (hu : P.underlying ty = some d) (hd : d.isRow = true) (hi : (P.info? ty).map (·.size) = some cs.length) (ha : a.defers = []) (hR : R (.returned (.agg cs.toArray)) w) : bodyPost P fn R .ret a w :=
 bodyPost_ret (results_cell_row h a.tmps w b t cs.toArray (0, 0) d hp hb hu (by cases d <;> simp_all) (by simpa using hi)) ha hR
theorem run_index_arr {P : Program} (w : World) (t e : TypeId) (k : IntKind) (n : Nat) (cs : List Value) (i : Nat) (v : Value) (hv : cs[i]? = some v) (hu : P.underlying t = some (.array n e)) (hn : cs.length = n) (hs : (P.info? e).map (·.size) = some 1) (he : P.underlying e = some (.int k)) :
  (Instr.index t (.agg cs.toArray) (.int .i64 (i : Int))).run P w = .ok v w := by
 have hi : i < n := hn ▸ (List.getElem?_eq_some_iff.1 hv).1
 cases hq : P.info? e with
 | none => simp [hq] at hs
 | some inf =>
  have h1 : inf.size = 1 := by simpa [hq] using hs
  simp [Instr.index, asIntOf, run_underlying hu, hi, sizeOf, typeInfo, hq, h1, part, isAgg, run_underlying he, hv]
theorem wl_one (l : WL) : ∀ v ∈ wlV l, v.oneCell' = true := fun v hv => by
 unfold wlV at hv
 obtain ⟨x, _, rfl⟩ := List.mem_map.1 hv
 rfl
end Go.Proofs.Ytjmeakfjfpnciaa
namespace Go.Proofs.Ytjmeakfjfpnciaa
open Go.RowKit
def zw (n : Nat) : WL := List.replicate n 0
theorem zw_len (n : Nat) : (zw n).length = n := List.length_replicate
theorem wl_cell {W : World} {b : Nat} {t : TypeId} {l : WL} (h : Bx W b t (wlV l)) (i : Nat) (hi : i < l.length) : W.cell? ⟨b, i, none⟩ = some (.int .u32 ((l.getD i 0).toNat : Int)) := h.cell (wlV_get l i hi)
theorem info16 : (Try.prog.info? 226).map (·.size) = some 16 := by kernel_rfl
theorem infoPool : (Try.prog.info? 287).map (·.size) = some 16 := by kernel_rfl
theorem Stir_any (v m : WL) (hv : v.length = 16) (hm : m.length = 16) (w : World) :
  Calls Try.prog 209 #[.agg (wlV v).toArray, .agg (wlV m).toArray] w fun e w' => e = .returned (.agg (wlV (stirB v m)).toArray) ∧ Below w.heap.size w w' := by
 have HV := Lib.hid hv
 have HM := Lib.hid hm
 have HI := Lib.hid (show (Try.prog.info? 226).map (·.size) = some (wlV v).length by rw [wlV_len, hv]; exact info16)
 have HIP := Lib.hid (show (Try.prog.info? 287).map (·.size) = some (wlV v).length by rw [wlV_len, hv]; exact infoPool)
 have HZ := Lib.hid (show (wlV (zw 16)).length = (wlV v).length by rw [wlV_len, wlV_len, hv]; rfl)
 clear hv hm
 have hz : (#[.int .u32 0, .int .u32 0, .int .u32 0, .int .u32 0, .int .u32 0, .int .u32 0, .int .u32 0, .int .u32 0, .int .u32 0, .int .u32 0, .int .u32 0, .int .u32 0, .int .u32 0, .int .u32 0, .int .u32 0, .int .u32 0] : Array Value) = (wlV (zw 16)).toArray := rfl
 go_enter Try.func209, Try.ntmps209
 go_upto_region 1 with (fail)
 obtain ⟨w1, hq1, hb9, hz9, Ha, Hb, Hr⟩ := new3 w 226 (wlV v) 226 (wlV m) 226 (wlV (zw 16))
 rw [hq1]
 clear hq1
 have HB := Lib.hid hb9
 have HZS := hz9
 clear hb9 hz9
 go_upto_region 2 with (first | refine wpList_load_mid rfl 226 (.tmp 2) rfl w.heap.size 0 rfl (wlV v) _ Ha.out.range Try.underlying226 rfl HI.out ?_ | refine wpList_store_new rfl 287 287 (.tmp 5) (.tmp 8) rfl (wlV (zw 16)) (wlV v) rfl rfl HIP.out HZ.out (wl_one v) ?_)
 clear hz HIP HZ HI Ha
 obtain ⟨w2, hq2, hb9, hz9, Hp⟩ := new1 w1 287 (wlV v)
 rw [hq2]
 clear hq2
 replace Hb := Lib.hid (Hb.out.up hb9)
 replace Hr := Lib.hid (Hr.out.up hb9)
 replace HB := hbu HB hb9
 replace HZS := sz HZS hz9.out
 clear hb9 hz9
 have HK := Lib.hid (Kept.refl (fun q9 => q9 = w1.heap.size) w2)
 have HL0 := HB
 go_wp2_with fail
 go_loopw [9] (fun c wr => ∃ k : Nat, k ≤ 10 ∧ c = .int .i64 k ∧ Hid (Bx wr w1.heap.size 287 (wlV (roundsB m k v))) ∧ Hid (Kept (fun q9 => q9 = w1.heap.size) w2 wr)) (fun c _ => 10 - (intOf c).toNat)
 case atStart => exact ⟨0, by omega, rfl, Hp, HK⟩
 case round =>
  obtain ⟨k, hk, rfl, HQ, HK1⟩ := hrel
  clear HK
  have hg9 := HK1.out
  clear Hp
  replace Hb := Lib.hid (Bx.keptP (P := fun q9 => q9 = w1.heap.size) Hb.out hg9 (show ¬ (w.heap.size + 1 = w1.heap.size) by have g0 := HZS.out; omega))
  replace Hr := Lib.hid (Bx.keptP (P := fun q9 => q9 = w1.heap.size) Hr.out hg9 (show ¬ (w.heap.size + 2 = w1.heap.size) by have g0 := HZS.out; omega))
  replace HB := Lib.hid (Below.keptP HB.out hg9 (by have g0 := HZS.out; omega) (fun q9 h9 => (show w.heap.size ≤ _ by subst h9; have g0 := HZS.out; omega)))
  replace HZS := sz HZS (show w2.heap.size ≤ wr.heap.size from hg9.size)
  clear hg9
  have Hp := HQ
  clear HQ
  have HVL := Lib.hid (show (roundsB m k v).length = 16 by rw [roundsB_len]; exact HV.out)
  by_cases hk10 : k < 10
  ·have hdk : decide ((k : Int) < 10) = true := by simp; omega
   have hrs := Lib.hid (roundsB_succ m k v)
   generalize roundsB m k v = V at *
   obtain ⟨wo, rfl⟩ : ∃ wo : World, wo = wr := ⟨_, rfl⟩
   have HK2 := Lib.hid (Kept.refl (fun q9 => q9 = w1.heap.size) wo)
   go_wp2_with fail
   go_loopw [12] (fun c wr => ∃ i : Nat, i ≤ 8 ∧ c = .int .i64 i ∧ Hid (Bx wr w1.heap.size 287 (wlV (halfB m k i V))) ∧ Hid (Kept (fun q9 => q9 = w1.heap.size) wo wr)) (fun c _ => 8 - (intOf c).toNat)
   case atStart => exact ⟨0, by omega, rfl, Hp, HK2⟩
   case round =>
    obtain ⟨i, hi, rfl, HQ, HK3⟩ := hrel
    clear HK2
    have hg9 := HK3.out
    clear Hp
    replace Hb := Lib.hid (Bx.keptP (P := fun q9 => q9 = w1.heap.size) Hb.out hg9 (show ¬ (w.heap.size + 1 = w1.heap.size) by have g0 := HZS.out; omega))
    replace Hr := Lib.hid (Bx.keptP (P := fun q9 => q9 = w1.heap.size) Hr.out hg9 (show ¬ (w.heap.size + 2 = w1.heap.size) by have g0 := HZS.out; omega))
    replace HB := Lib.hid (Below.keptP HB.out hg9 (by have g0 := HZS.out; omega) (fun q9 h9 => (show w.heap.size ≤ _ by subst h9; have g0 := HZS.out; omega)))
    replace HZS := sz HZS (show wo.heap.size ≤ wr.heap.size from hg9.size)
    clear hg9
    have Hp := HQ
    clear HQ
    have HVI := Lib.hid (show (halfB m k i V).length = 16 by rw [halfB_len]; exact HVL.out)
    by_cases hi8 : i < 8
    ·have HS := Lib.hid (halfB_succ m k i V)
     have HQU := fun W h => quarter_any m (halfB m k i V) k i hi8 HVI.out w1.heap.size W h
     have HP1 := fun w => place_any k (2 * i) hk10 (by omega) w
     have HP2 := fun w => place_any k (2 * i + 1) hk10 (by omega) w
     have o1 : ordN k (2 * i) < 16 := ordN_lt hk10 (by omega)
     have o2 : ordN k (2 * i + 1) < 16 := ordN_lt hk10 (by omega)
     rw [show ((2 * i : Nat) : Int) = 2 * (i : Int) from by omega] at HP1
     rw [show ((2 * i + 1 : Nat) : Int) = 2 * (i : Int) + 1 from by omega] at HP2
     generalize quartB m (halfB m k i V) k i = V2 at *
     generalize halfB m k i V = V1 at *
     generalize ordN k (2 * i) = j1 at *
     generalize ordN k (2 * i + 1) = j2 at *
     have c1 := wl_cell Hb.out j1 (by rw [HM.out]; exact o1)
     have c2 := wl_cell Hb.out j2 (by rw [HM.out]; exact o2)
     have HQU := Lib.hid HQU
     have HP1 := Lib.hid HP1
     have HP2 := Lib.hid HP2
     generalize m.getD j1 0 = x1 at *
     generalize m.getD j2 0 = x2 at *
     have a1 : (0 : Int) ≤ (j1 : Int) := by omega
     have a2 : (j1 : Int) < 16 := by omega
     have a3 : (0 : Int) ≤ (j2 : Int) := by omega
     have a4 : (j2 : Int) < 16 := by omega
     go_wp2_with fail
     refine wp_region_otail 14 (by kernel_rfl) (by kernel_rfl) ?_
     simp only [List.take_succ_cons, List.take_zero, List.drop_succ_cons, List.drop_zero]
     have hov_w_heap_size___1 := fun (E : Over wr) o => E.cell (b := w.heap.size + 1) o Hb.out.lt
     repeat (go_big_quiet_step (first | (go_at_call 214; exact calls_over ((by first | with_reducible exact HP1.out _ | with_reducible exact HP2.out _)))))
     all_goals (try unfold elV limbV)
     repeat (go_big_quiet_step (first | (go_at_call 214; exact calls_over ((by first | with_reducible exact HP1.out _ | with_reducible exact HP2.out _)))))
     all_goals (try unfold elV limbV)
     repeat (go_big_quiet_step (first | (go_at_call 214; exact calls_over ((by first | with_reducible exact HP1.out _ | with_reducible exact HP2.out _)))))
     all_goals (try unfold ciphV)
     refine wpQuiet_nil ?_
     rintro _ ⟨E, rfl⟩
     clear hov_w_heap_size___1
     replace Hb := Lib.hid (Hb.out.up E.h)
     replace Hr := Lib.hid (Hr.out.up E.h)
     replace Hp := Lib.hid (Hp.out.up E.h)
     replace HK3 := Lib.hid (Kept.up HK3.out E.h)
     replace HB := hbu HB E.h
     replace HZS := sz HZS E.h.size
     obtain ⟨w3, hq9⟩ : ∃ W9 : World, E.w = W9 := ⟨_, rfl⟩
     rw [hq9] at Hb Hr Hp HK3 HB HZS ⊢
     clear hq9 E c1 c2
     go_wp2_with fail
     refine (HQU.out _ Hp.out).mono ?_
     rintro e wq ⟨rfl, hq1, hk1⟩
     have HQ1 := Lib.hid hq1
     have HK4 := Lib.hid (HK3.out.trans hk1)
     clear hq1 hk1 HQU HP1 HP2
     go_wp2_with fail
     go_roundw
     case rel => exact ⟨i + 1, by omega, by go_num, by rw [HS.out]; exact HQ1, HK4⟩
     case measure => simp [intOf]; omega
    ·have hi8' : i = 8 := by omega
     subst hi8'
     have HQ := Hp
     rw [← hrs.out] at HQ
     have HK5 := Lib.hid (HK1.out.trans HK3.out)
     go_wp2_with fail
     go_roundw
     case rel => exact ⟨k + 1, by omega, by go_num, HQ, HK5⟩
     case measure => simp [intOf]; omega
  ·have hk' : k = 10 := by omega
   subst hk'
   rw [roundsB_all] at Hp
   have HSL := Lib.hid (stirB_len v m)
   obtain ⟨S, hS⟩ : ∃ S, stirB v m = S := ⟨_, rfl⟩
   rw [hS] at Hp HSL
   have HS := Lib.hid hS
   clear hS
   have HSI := Lib.hid (show (Try.prog.info? 287).map (·.size) = some (wlV S).length by rw [wlV_len, HSL.out, HV.out]; exact infoPool)
   have HSJ := Lib.hid (show (Try.prog.info? 226).map (·.size) = some (wlV S).length by rw [wlV_len, HSL.out, HV.out]; exact info16)
   have HZ := Lib.hid (show (wlV S).length = (wlV (zw 16)).length by rw [wlV_len, wlV_len, HSL.out, HV.out]; rfl)
   obtain ⟨w5, hq5, hg5, hz5, hr5⟩ := puts Hr 0 (wlV S) (wlV S) (putL_all _ _ HZ.out)
   have HB5 := hbg HB hg5 (by omega)
   go_wp2_with (first | refine wpList_load_mid rfl 287 (.tmp 5) rfl w1.heap.size 0 rfl (wlV S) _ Hp.out.range Try.underlying287 rfl HSI.out ?_ | refine wpList_store_mid rfl 226 (.tmp 4) (.tmp 32) rfl (w.heap.size + 2) 0 (wlV S).toArray rfl rfl (Hr.out.there (by simp [HZ.out])) (by simpa using HSJ.out) (all_oneCell_toArray (wl_one S)) ?_)
   rw [hq5]
   exact ret_arr Try.results209 hr5.out _ rfl Try.underlying226 rfl HSJ.out rfl ⟨by rw [HS.out], HB5.out⟩
end Go.Proofs.Ytjmeakfjfpnciaa
namespace Go.Proofs.Ytjmeakfjfpnciaa
open Go.RowKit
theorem info8 : (Try.prog.info? 224).map (·.size) = some 8 := by kernel_rfl
theorem infoW : (Try.prog.info? 221).map (·.size) = some 1 := by kernel_rfl
def startV : WL := startB
theorem startB_len : startV.length = 8 := rfl
theorem start_any (w : World) : Calls Try.prog 203 #[] w fun e w' => e = .returned (.agg (wlV startV).toArray) ∧ Below w.heap.size w w' := by
 go_enter Try.func203, Try.ntmps203
 go_wp2_with fail
 obtain ⟨w1, hq1, hb9, hz9, Hr⟩ := new1 w 224 [.int .u32 1779033703, .int .u32 3144134277, .int .u32 1013904242, .int .u32 2773480762, .int .u32 1359893119, .int .u32 2600822924, .int .u32 528734635, .int .u32 1541459225]
 rw [hq1]
 clear hq1
 have HB := Lib.hid hb9
 have HZS := hz9
 clear hb9 hz9
 have r_ := Hr.out.c8
 simp [bodyPost, results, Try.results203, go_sem, r_]
 exact ⟨rfl, HB.out⟩
theorem wlV_app (l m : WL) : wlV l ++ wlV m = wlV (l ++ m) := by unfold wlV; rw [List.map_append]
theorem pre_copy1 (h : WL) (hh : h.length = 8) : putL (wlV (zw 16)) 0 (wlV h) = wlV (h ++ zw 8) := by
 rw [putL_eq _ _ _ (by rw [wlV_len, wlV_len, hh]; decide), List.take_zero, List.nil_append, wlV_len, hh, ← wlV_app]
 rfl
theorem pre_copy2 (h : WL) (hh : h.length = 8) : putL (wlV (h ++ zw 8)) 8 (wlV startV) = wlV (h ++ startV) := by
 have h8 : (wlV h).length = 8 := by rw [wlV_len, hh]
 rw [putL_eq _ _ _ (by rw [wlV_len, wlV_len, List.length_append, hh]; decide), ← wlV_app, List.take_append_of_le_length (by omega), List.take_of_length_le (by omega), wlV_len, startB_len, List.drop_eq_nil_of_le (by rw [List.length_append, h8, wlV_len]; decide), List.append_nil, wlV_app]
theorem pre_cell (h : WL) (hh : h.length = 8) (j : Nat) (hj : j < 8) : (wlV (h ++ startV))[8 + j]? = (wlV startV)[j]? := by
 rw [← wlV_app, List.getElem?_append_right (by rw [wlV_len, hh]; omega), wlV_len, hh, show 8 + j - 8 = j by omega]
theorem wl_ne (l : WL) (i j : Nat) (x : BitVec 32) (h : i ≠ j) : (wlV (l.set i x))[j]? = (wlV l)[j]? := by rw [← wlV_set, List.getElem?_set_ne h]
theorem xor_lo (n : Nat) : bits BinOp.xor IntKind.u32 1359893119 ((n : Int) % 4294967296) = ((startB.getD 4 0 ^^^ BitVec.ofNat 32 n).toNat : Int) := by
 rw [← bits_xor, BitVec.toNat_ofNat]; rfl
theorem xor_hi (n : Nat) (hn : n < 18446744073709551616) : bits BinOp.xor IntKind.u32 2600822924 ((n : Int) / 4294967296) = ((startB.getD 5 0 ^^^ BitVec.ofNat 32 (n / 4294967296)).toNat : Int) := by
 rw [← bits_xor, BitVec.toNat_ofNat, Nat.mod_eq_of_lt (show n / 4294967296 < 2 ^ 32 by omega)]; rfl
theorem Press_any (h m : WL) (hh : h.length = 8) (hm : m.length = 16) (n : Nat) (hn : n < 18446744073709551616) (last : Bool) (w : World) :
  Calls Try.prog 204 #[.agg (wlV h).toArray, .agg (wlV m).toArray, .int .u64 (n : Int), .bool last] w fun e w' => e = .returned (.agg (wlV (pressB h m n last)).toArray) ∧ Below w.heap.size w w' := by
 have HH := Lib.hid hh
 have HM := Lib.hid hm
 have HL8 := Lib.hid (show (wlV h).length = 8 by rw [wlV_len, hh])
 have HI8 := Lib.hid (show (Try.prog.info? 224).map (·.size) = some (wlV startV).length from info8)
 have HZ8 := Lib.hid (show (wlV (zw 8)).length = (wlV startV).length from rfl)
 have HIM := Lib.hid (show (Try.prog.info? 226).map (·.size) = some (wlV m).length by rw [wlV_len, hm]; exact info16)
 have hz : (#[.int .u32 0, .int .u32 0, .int .u32 0, .int .u32 0, .int .u32 0, .int .u32 0, .int .u32 0, .int .u32 0, .int .u32 0, .int .u32 0, .int .u32 0, .int .u32 0, .int .u32 0, .int .u32 0, .int .u32 0, .int .u32 0] : Array Value) = (wlV (zw 16)).toArray := rfl
 have hz8 : (#[.int .u32 0, .int .u32 0, .int .u32 0, .int .u32 0, .int .u32 0, .int .u32 0, .int .u32 0, .int .u32 0] : Array Value) = (wlV (zw 8)).toArray := rfl
 have E1 := Lib.hid (pre_copy1 h hh)
 have E2 := Lib.hid (pre_copy2 h hh)
 have hx12 := xor_lo n
 have hx13 := xor_hi n hn
 clear hh hm
 go_enter Try.func204, Try.ntmps204
 go_upto_region 2 with (fail)
 obtain ⟨w1, hq1, hb9, hz9, Ha, Hb, Hr, Hv⟩ := new4 w 224 (wlV h) 226 (wlV m) 224 (wlV (zw 8)) 226 (wlV (zw 16))
 rw [hq1]
 clear hq1
 have HB := Lib.hid hb9
 have HZS := hz9
 clear hb9 hz9
 go_wp2_with fail
 refine (start_any w1).mono ?_
 rintro e w2 ⟨rfl, hb9⟩
 replace Ha := Lib.hid (Ha.out.up hb9)
 replace Hb := Lib.hid (Hb.out.up hb9)
 replace Hr := Lib.hid (Hr.out.up hb9)
 replace Hv := Lib.hid (Hv.out.up hb9)
 replace HB := hbu HB hb9
 replace HZS := sz HZS hb9.size
 clear hb9
 go_upto_region 3 with (refine wpList_store_new rfl 224 224 (.tmp 10) (.tmp 13) rfl (wlV (zw 8)) (wlV startV) rfl rfl HI8.out HZ8.out (wl_one startV) ?_)
 obtain ⟨w3, hq3, hb9, hz9, Hs⟩ := new1 w2 224 (wlV startV)
 rw [hq3]
 clear hq3
 replace Ha := Lib.hid (Ha.out.up hb9)
 replace Hb := Lib.hid (Hb.out.up hb9)
 replace Hr := Lib.hid (Hr.out.up hb9)
 replace Hv := Lib.hid (Hv.out.up hb9)
 replace HB := hbu HB hb9
 replace HZS := sz HZS hz9.out
 clear hb9 hz9
 go_simp
 refine wp_region_otail 2 (by kernel_rfl) (by kernel_rfl) ?_
 simp only [List.take_succ_cons, List.take_zero, List.drop_succ_cons, List.drop_zero]
 repeat (go_big_quiet_step (first | fail))
 all_goals (try unfold elV limbV)
 repeat (go_big_quiet_step (first | fail))
 all_goals (try unfold elV limbV)
 repeat (go_big_quiet_step (first | fail))
 all_goals (try unfold ciphV)
 refine wpQuiet_nil ?_
 rintro _ ⟨E, rfl⟩
 replace Ha := Lib.hid (Ha.out.up E.h)
 replace Hb := Lib.hid (Hb.out.up E.h)
 replace Hr := Lib.hid (Hr.out.up E.h)
 replace Hv := Lib.hid (Hv.out.up E.h)
 replace Hs := Lib.hid (Hs.out.up E.h)
 replace HB := hbu HB E.h
 replace HZS := sz HZS E.h.size
 obtain ⟨w4, hq9⟩ : ∃ W9 : World, E.w = W9 := ⟨_, rfl⟩
 rw [hq9] at Ha Hb Hr Hv Hs HB HZS ⊢
 clear hq9 E
 refine wpList_copyB rfl (.tmp 14) (.tmp 15) 282 282 rfl 221 Try.underlying282 infoW (w.heap.size + 3) 0 8 16 ⟨w.heap.size, 0, none⟩ 8 8 rfl rfl (wlV (zw 16)) 226 Hv.out (wlV h) (by rw [HL8.out]; rfl) (fun j v hv => by rw [Addr.add_mid]; exact Ha.out.range j v hv) (by rw [HL8.out]; decide) (wl_one h) _ E1.out ?_
 intro wc hg9 hz9 hx9
 replace Ha := Lib.hid (Ha.out.grown hg9.out (sne (by have g0 := HZS.out; omega)))
 replace Hb := Lib.hid (Hb.out.grown hg9.out (sne (by have g0 := HZS.out; omega)))
 replace Hr := Lib.hid (Hr.out.grown hg9.out (sne (by have g0 := HZS.out; omega)))
 replace Hs := Lib.hid (Hs.out.grown hg9.out (sne (by have g0 := HZS.out; omega)))
 replace HB := hbg HB hg9 (by have g0 := HZS.out; omega)
 replace HZS := sz HZS hz9.out
 replace Hv := hx9
 clear hx9 hg9 hz9
 go_wp2_with fail
 go_simp
 refine wp_region_otail 2 (by kernel_rfl) (by kernel_rfl) ?_
 simp only [List.take_succ_cons, List.take_zero, List.drop_succ_cons, List.drop_zero]
 repeat (go_big_quiet_step (first | fail))
 all_goals (try unfold elV limbV)
 repeat (go_big_quiet_step (first | fail))
 all_goals (try unfold elV limbV)
 repeat (go_big_quiet_step (first | fail))
 all_goals (try unfold ciphV)
 refine wpQuiet_nil ?_
 rintro _ ⟨E, rfl⟩
 replace Ha := Lib.hid (Ha.out.up E.h)
 replace Hb := Lib.hid (Hb.out.up E.h)
 replace Hr := Lib.hid (Hr.out.up E.h)
 replace Hv := Lib.hid (Hv.out.up E.h)
 replace Hs := Lib.hid (Hs.out.up E.h)
 replace HB := hbu HB E.h
 replace HZS := sz HZS E.h.size
 obtain ⟨w5, hq9⟩ : ∃ W9 : World, E.w = W9 := ⟨_, rfl⟩
 rw [hq9] at Ha Hb Hr Hv Hs HB HZS ⊢
 clear hq9 E
 refine wpList_copyB rfl (.tmp 17) (.tmp 18) 282 282 rfl 221 Try.underlying282 infoW (w.heap.size + 3) 8 8 8 ⟨w2.heap.size, 0, none⟩ 8 8 rfl rfl (wlV (h ++ zw 8)) 226 Hv.out (wlV startV) rfl (fun j v hv => by rw [Addr.add_mid]; exact Hs.out.range j v hv) (by rw [wlV_len, wlV_len, List.length_append, HH.out]; decide) (wl_one startV) _ E2.out ?_
 intro wd hg9 hz9 hx9
 replace Ha := Lib.hid (Ha.out.grown hg9.out (sne (by have g0 := HZS.out; omega)))
 replace Hb := Lib.hid (Hb.out.grown hg9.out (sne (by have g0 := HZS.out; omega)))
 replace Hr := Lib.hid (Hr.out.grown hg9.out (sne (by have g0 := HZS.out; omega)))
 replace Hs := Lib.hid (Hs.out.grown hg9.out (sne (by have g0 := HZS.out; omega)))
 replace HB := hbg HB hg9 (by have g0 := HZS.out; omega)
 replace HZS := sz HZS hz9.out
 replace Hv := hx9
 clear hx9 hg9 hz9 Hs
 have c12 : wd.cell? ⟨w.heap.size + 3, 12, none⟩ = some (.int .u32 1359893119) := Hv.out.cell (by rw [show 12 = 8 + 4 from rfl, pre_cell h HH.out 4 (by decide)]; rfl)
 obtain ⟨z12, e12⟩ : ∃ z, startB.getD 4 0 ^^^ BitVec.ofNat 32 n = z := ⟨_, rfl⟩
 obtain ⟨z13, e13⟩ : ∃ z, startB.getD 5 0 ^^^ BitVec.ofNat 32 (n / 4294967296) = z := ⟨_, rfl⟩
 rw [e12] at hx12
 rw [e13] at hx13
 have HPR := Lib.hid (show ∀ b, preB h n b = if b then (((h ++ startV).set 12 z12).set 13 z13).set 14 (~~~ startB.getD 6 0) else ((h ++ startV).set 12 z12).set 13 z13 from fun b => by rw [← e12, ← e13]; rfl)
 clear e12 e13
 have f6_v := Hv.out.frozen
 obtain ⟨w6, hq6, hg9, hz9, hx9⟩ := put1 Hv 12 (.int .u32 (z12.toNat : Int)) _ rfl
 replace Ha := Lib.hid (Ha.out.grown hg9.out (sne (by have g0 := HZS.out; omega)))
 replace Hb := Lib.hid (Hb.out.grown hg9.out (sne (by have g0 := HZS.out; omega)))
 replace Hr := Lib.hid (Hr.out.grown hg9.out (sne (by have g0 := HZS.out; omega)))
 replace HB := hbg HB hg9 (by have g0 := HZS.out; omega)
 replace HZS := sz HZS hz9.out
 replace Hv := hx9
 clear hx9 hg9 hz9
 replace Hv := Lib.hid Hv.out.wset
 go_upto_region 6 with (fail)
 clear c12
 have c13 : w6.cell? ⟨w.heap.size + 3, 13, none⟩ = some (.int .u32 2600822924) := Hv.out.cell (by rw [wl_ne _ _ _ _ (by decide), show 13 = 8 + 5 from rfl, pre_cell h HH.out 5 (by decide)]; rfl)
 have f7_v := Hv.out.frozen
 obtain ⟨w7, hq7, hg9, hz9, hx9⟩ := put1 Hv 13 (.int .u32 (z13.toNat : Int)) _ rfl
 replace Ha := Lib.hid (Ha.out.grown hg9.out (sne (by have g0 := HZS.out; omega)))
 replace Hb := Lib.hid (Hb.out.grown hg9.out (sne (by have g0 := HZS.out; omega)))
 replace Hr := Lib.hid (Hr.out.grown hg9.out (sne (by have g0 := HZS.out; omega)))
 replace HB := hbg HB hg9 (by have g0 := HZS.out; omega)
 replace HZS := sz HZS hz9.out
 replace Hv := hx9
 clear hx9 hg9 hz9
 replace Hv := Lib.hid Hv.out.wset
 go_upto_region 7 with (fail)
 clear c13 hx12 hx13
 have HLV := Lib.hid (show (((h ++ startV).set 12 z12).set 13 z13).length = 16 by rw [List.length_set, List.length_set, List.length_append, HH.out]; rfl)
 have c14 : w7.cell? ⟨w.heap.size + 3, 14, none⟩ = some (.int .u32 528734635) := Hv.out.cell (by rw [wl_ne _ _ _ _ (by decide), wl_ne _ _ _ _ (by decide), show 14 = 8 + 6 from rfl, pre_cell h HH.out 6 (by decide)]; rfl)
 generalize ((h ++ startV).set 12 z12).set 13 z13 = V1 at *
 cases last
 case true =>
  have hx14 : bits BinOp.xor IntKind.u32 IntKind.u32.max 528734635 = ((~~~ startB.getD 6 0).toNat : Int) := by rw [← bits_not]; rfl
  obtain ⟨z14, e14⟩ : ∃ z, ~~~ startB.getD 6 0 = z := ⟨_, rfl⟩
  rw [e14] at hx14 HPR
  clear e14
  have f8_v := Hv.out.frozen
  obtain ⟨w8, hq8, hg9, hz9, hx9⟩ := put1 Hv 14 (.int .u32 (z14.toNat : Int)) _ rfl
  replace Ha := Lib.hid (Ha.out.grown hg9.out (sne (by have g0 := HZS.out; omega)))
  replace Hb := Lib.hid (Hb.out.grown hg9.out (sne (by have g0 := HZS.out; omega)))
  replace Hr := Lib.hid (Hr.out.grown hg9.out (sne (by have g0 := HZS.out; omega)))
  replace HB := hbg HB hg9 (by have g0 := HZS.out; omega)
  replace HZS := sz HZS hz9.out
  replace Hv := hx9
  clear hx9 hg9 hz9
  replace Hv := Lib.hid Hv.out.wset
  have HPV := Lib.hid (show V1.set 14 z14 = preB h n true from (HPR.out true).symm)
  have HVL := Lib.hid (show (preB h n true).length = 16 by rw [← HPV.out, List.length_set]; exact HLV.out)
  rw [HPV.out] at Hv
  clear HPV HPR HLV
  go_upto_region 9 with (fail)
  rw [if_neg (show ¬ (IntKind.u32.signed = true) by decide), hx14, hq8]
  clear c14 hx14
  have HVI := Lib.hid (show (Try.prog.info? 226).map (·.size) = some (wlV (preB h n true)).length by rw [wlV_len, HVL.out]; exact info16)
  have HSA := Lib.hid (fun w => Stir_any (preB h n true) m HVL.out HM.out w)
  have HSL := Lib.hid (stirB_len (preB h n true) m)
  have HPE := Lib.hid (show mixB h (stirB (preB h n true) m) 8 = pressB h m n true from rfl)
  generalize stirB (preB h n true) m = S at *
  generalize preB h n true = V at *
  go_wp2_with (first | refine wpList_load_mid rfl 226 (.tmp 9) rfl (w.heap.size + 3) 0 rfl (wlV V) _ Hv.out.range Try.underlying226 rfl HVI.out ?_ | refine wpList_load_mid rfl 226 (.tmp 5) rfl (w.heap.size + 1) 0 rfl (wlV m) _ Hb.out.range Try.underlying226 rfl HIM.out ?_)
  refine (HSA.out w8).mono ?_
  rintro e w9 ⟨rfl, hb9⟩
  replace Ha := Lib.hid (Ha.out.up hb9)
  replace Hb := Lib.hid (Hb.out.up hb9)
  replace Hr := Lib.hid (Hr.out.up hb9)
  replace Hv := Lib.hid (Hv.out.up hb9)
  replace HB := hbu HB hb9
  replace HZS := sz HZS hb9.size
  clear hb9
  have HIS := Lib.hid (show (Try.prog.info? 226).map (·.size) = some (wlV S).length by rw [wlV_len, HSL.out, HVL.out]; exact info16)
  have HZS2 := Lib.hid (show (wlV (zw 16)).length = (wlV S).length by rw [wlV_len, wlV_len, HSL.out, HVL.out]; rfl)
  go_upto_region 10 with (refine wpList_store_new rfl 226 226 (.tmp 11) (.tmp 40) rfl (wlV (zw 16)) (wlV S) rfl rfl HIS.out HZS2.out (wl_one S) ?_)
  clear HVI HSA HIM HZS2 HIS Hv Hb
  obtain ⟨w10, hq10, hb9, hz9, Hs⟩ := new1 w9 226 (wlV S)
  rw [hq10]
  clear hq10
  replace Ha := Lib.hid (Ha.out.up hb9)
  replace Hr := Lib.hid (Hr.out.up hb9)
  replace HB := hbu HB hb9
  replace HZS := sz HZS hz9.out
  clear hb9 hz9
  rw [show wlV h = wlV (mixB h S 0) by rw [mixB_zero h S HH.out]] at Ha
  clear hz hz8
  have HK := Lib.hid (Kept.refl (fun q9 => q9 = w.heap.size) w10)
  go_wp2_with fail
  clear hq8 f8_v hq7 f7_v hq6 f6_v
  go_loopw [41] (fun c wr => ∃ k : Nat, k ≤ 8 ∧ c = .int .i64 k ∧ Hid (Bx wr w.heap.size 224 (wlV (mixB h S k))) ∧ Hid (Kept (fun q9 => q9 = w.heap.size) w10 wr)) (fun c _ => 8 - (intOf c).toNat)
  case atStart => exact ⟨0, by omega, rfl, Ha, HK⟩
  case round =>
   obtain ⟨k, hk, rfl, HQ, HK1⟩ := hrel
   clear HK
   have hg9 := HK1.out
   clear Ha
   replace Hr := Lib.hid (Bx.keptP (P := fun q9 => q9 = w.heap.size) Hr.out hg9 (show ¬ (w.heap.size + 2 = w.heap.size) by have g0 := HZS.out; omega))
   replace Hs := Lib.hid (Bx.keptP (P := fun q9 => q9 = w.heap.size) Hs.out hg9 (show ¬ (w9.heap.size = w.heap.size) by have g0 := HZS.out; omega))
   replace HB := Lib.hid (Below.keptP HB.out hg9 (by have g0 := HZS.out; omega) (fun q9 h9 => (show w.heap.size ≤ _ by subst h9; have g0 := HZS.out; omega)))
   replace HZS := sz HZS (show w10.heap.size ≤ wr.heap.size from hg9.size)
   clear hg9
   have Ha := HQ
   clear HQ
   have HAL := Lib.hid (mixB_len h S k)
   by_cases hk8 : k < 8
   ·have hs := mixB_succ h S k
    have c1 := wl_cell Ha.out k (by rw [HAL.out]; exact hk8)
    have e1 : (mixB h S k).getD k 0 = h.getD k 0 := by
     show ((mixB h S k)[k]?).getD 0 = _
     rw [List.getElem?_eq_getElem (by rw [HAL.out]; exact hk8)]
     exact (mixB_at h S k k (by rw [HAL.out]; exact hk8)).trans (if_neg (by omega))
    rw [e1] at c1
    have c2 := wl_cell Hs.out k (by rw [HSL.out, HVL.out]; omega)
    have c3 := wl_cell Hs.out (k + 8) (by rw [HSL.out, HVL.out]; omega)
    generalize h.getD k 0 = x at *
    generalize S.getD k 0 = y at *
    generalize S.getD (k + 8) 0 = z at *
    have g1 := bits_xor y z
    obtain ⟨yz, e2⟩ : ∃ u, y ^^^ z = u := ⟨_, rfl⟩
    rw [e2] at g1
    have g2 := bits_xor x yz
    obtain ⟨u, e3⟩ : ∃ u, x ^^^ yz = u := ⟨_, rfl⟩
    rw [e3] at g2
    rw [show x ^^^ y ^^^ z = u by rw [← e3, ← e2, BitVec.xor_assoc]] at hs
    have HSS := Lib.hid hs
    clear hs e1 e2 e3
    generalize mixB h S k = M at *
    go_wp2_with fail
    refine wp_region_otail 13 (by kernel_rfl) (by kernel_rfl) ?_
    simp only [List.take_succ_cons, List.take_zero, List.drop_succ_cons, List.drop_zero]
    have hov_w_heap_size := fun (E : Over wr) o => E.cell (b := w.heap.size) o Ha.out.lt
    have hov_w9_heap_size := fun (E : Over wr) o => E.cell (b := w9.heap.size) o Hs.out.lt
    repeat (go_big_quiet_step (first | fail))
    all_goals (try unfold elV limbV)
    repeat (go_big_quiet_step (first | fail))
    all_goals (try unfold elV limbV)
    repeat (go_big_quiet_step (first | fail))
    all_goals (try unfold ciphV)
    refine wpQuiet_nil ?_
    rintro _ ⟨E, rfl⟩
    clear hov_w_heap_size hov_w9_heap_size
    replace Hr := Lib.hid (Hr.out.up E.h)
    replace Hs := Lib.hid (Hs.out.up E.h)
    replace Ha := Lib.hid (Ha.out.up E.h)
    replace HK1 := Lib.hid (Kept.up HK1.out E.h)
    replace HB := hbu HB E.h
    replace HZS := sz HZS E.h.size
    obtain ⟨w11, hq9⟩ : ∃ W9 : World, E.w = W9 := ⟨_, rfl⟩
    rw [hq9] at Hr Hs Ha HK1 HB HZS ⊢
    clear hq9 E c1 c2 c3
    have c1 := Ha.out.cell (wlV_get M k (by rw [HAL.out]; exact hk8))
    have f12_a := Ha.out.frozen
    obtain ⟨w12, hq12, hg9, hz9, hx9⟩ := put1 Ha k (.int .u32 (u.toNat : Int)) _ rfl
    replace Hr := Lib.hid (Hr.out.grown hg9.out (sne (by have g0 := HZS.out; omega)))
    replace Hs := Lib.hid (Hs.out.grown hg9.out (sne (by have g0 := HZS.out; omega)))
    replace HK1 := Lib.hid (Kept.grown HK1.out hg9.out (fun q9 e9 => by obtain rfl := Option.some.inj e9; exact Or.inr (rfl)))
    replace HB := hbg HB hg9 (by have g0 := HZS.out; omega)
    replace HZS := sz HZS hz9.out
    replace Ha := hx9
    clear hx9 hg9 hz9
    replace Ha := Lib.hid Ha.out.wset
    go_wp2_with fail
    clear hq12 f12_a c1 g1 g2
    have HQ := Ha
    rw [← HSS.out] at HQ
    go_roundw
    case rel => exact ⟨k + 1, by omega, by go_num, HQ, HK1⟩
    case measure => simp [intOf]; omega
   ·have hk' : k = 8 := by omega
    subst hk'
    rw [HPE.out] at Ha
    have HR := Lib.hid (pressB_len h m n true)
    obtain ⟨R, hR⟩ : ∃ R, pressB h m n true = R := ⟨_, rfl⟩
    rw [hR] at Ha HR
    have HRE := Lib.hid hR
    clear hR
    have HRI := Lib.hid (show (Try.prog.info? 224).map (·.size) = some (wlV R).length by rw [wlV_len, HR.out]; exact info8)
    have HRZ := Lib.hid (show (wlV R).length = (wlV (zw 8)).length by rw [wlV_len, wlV_len, HR.out]; rfl)
    obtain ⟨w5, hq5, hg5, hz5, hr5⟩ := puts Hr 0 (wlV R) (wlV R) (putL_all _ _ HRZ.out)
    have HB5 := hbg HB hg5 (by omega)
    go_wp2_with (first | refine wpList_load_mid rfl 224 (.tmp 4) rfl w.heap.size 0 rfl (wlV R) _ Ha.out.range Try.underlying224 rfl HRI.out ?_ | refine wpList_store_mid rfl 224 (.tmp 8) (.tmp 58) rfl (w.heap.size + 2) 0 (wlV R).toArray rfl rfl (Hr.out.there (by simp [HRZ.out])) (by simpa using HRI.out) (all_oneCell_toArray (wl_one R)) ?_)
    rw [hq5]
    exact ret_arr Try.results204 hr5.out _ rfl Try.underlying224 rfl HRI.out rfl ⟨by rw [HRE.out], HB5.out⟩
 case false =>
  have HPV := Lib.hid (show V1 = preB h n false from (HPR.out false).symm)
  have HVL := Lib.hid (show (preB h n false).length = 16 by rw [← HPV.out]; exact HLV.out)
  rw [HPV.out] at Hv
  clear HPV HPR HLV
  go_upto_region 9 with (fail)
  clear c14
  have HVI := Lib.hid (show (Try.prog.info? 226).map (·.size) = some (wlV (preB h n false)).length by rw [wlV_len, HVL.out]; exact info16)
  have HSA := Lib.hid (fun w => Stir_any (preB h n false) m HVL.out HM.out w)
  have HSL := Lib.hid (stirB_len (preB h n false) m)
  have HPE := Lib.hid (show mixB h (stirB (preB h n false) m) 8 = pressB h m n false from rfl)
  generalize stirB (preB h n false) m = S at *
  generalize preB h n false = V at *
  go_wp2_with (first | refine wpList_load_mid rfl 226 (.tmp 9) rfl (w.heap.size + 3) 0 rfl (wlV V) _ Hv.out.range Try.underlying226 rfl HVI.out ?_ | refine wpList_load_mid rfl 226 (.tmp 5) rfl (w.heap.size + 1) 0 rfl (wlV m) _ Hb.out.range Try.underlying226 rfl HIM.out ?_)
  refine (HSA.out w7).mono ?_
  rintro e w8 ⟨rfl, hb9⟩
  replace Ha := Lib.hid (Ha.out.up hb9)
  replace Hb := Lib.hid (Hb.out.up hb9)
  replace Hr := Lib.hid (Hr.out.up hb9)
  replace Hv := Lib.hid (Hv.out.up hb9)
  replace HB := hbu HB hb9
  replace HZS := sz HZS hb9.size
  clear hb9
  have HIS := Lib.hid (show (Try.prog.info? 226).map (·.size) = some (wlV S).length by rw [wlV_len, HSL.out, HVL.out]; exact info16)
  have HZS2 := Lib.hid (show (wlV (zw 16)).length = (wlV S).length by rw [wlV_len, wlV_len, HSL.out, HVL.out]; rfl)
  go_upto_region 10 with (refine wpList_store_new rfl 226 226 (.tmp 11) (.tmp 40) rfl (wlV (zw 16)) (wlV S) rfl rfl HIS.out HZS2.out (wl_one S) ?_)
  clear HVI HSA HIM HZS2 HIS Hv Hb
  obtain ⟨w9, hq9, hb9, hz9, Hs⟩ := new1 w8 226 (wlV S)
  rw [hq9]
  clear hq9
  replace Ha := Lib.hid (Ha.out.up hb9)
  replace Hr := Lib.hid (Hr.out.up hb9)
  replace HB := hbu HB hb9
  replace HZS := sz HZS hz9.out
  clear hb9 hz9
  rw [show wlV h = wlV (mixB h S 0) by rw [mixB_zero h S HH.out]] at Ha
  clear hz hz8
  have HK := Lib.hid (Kept.refl (fun q9 => q9 = w.heap.size) w9)
  go_wp2_with fail
  clear hq7 f7_v hq6 f6_v
  go_loopw [41] (fun c wr => ∃ k : Nat, k ≤ 8 ∧ c = .int .i64 k ∧ Hid (Bx wr w.heap.size 224 (wlV (mixB h S k))) ∧ Hid (Kept (fun q9 => q9 = w.heap.size) w9 wr)) (fun c _ => 8 - (intOf c).toNat)
  case atStart => exact ⟨0, by omega, rfl, Ha, HK⟩
  case round =>
   obtain ⟨k, hk, rfl, HQ, HK1⟩ := hrel
   clear HK
   have hg9 := HK1.out
   clear Ha
   replace Hr := Lib.hid (Bx.keptP (P := fun q9 => q9 = w.heap.size) Hr.out hg9 (show ¬ (w.heap.size + 2 = w.heap.size) by have g0 := HZS.out; omega))
   replace Hs := Lib.hid (Bx.keptP (P := fun q9 => q9 = w.heap.size) Hs.out hg9 (show ¬ (w8.heap.size = w.heap.size) by have g0 := HZS.out; omega))
   replace HB := Lib.hid (Below.keptP HB.out hg9 (by have g0 := HZS.out; omega) (fun q9 h9 => (show w.heap.size ≤ _ by subst h9; have g0 := HZS.out; omega)))
   replace HZS := sz HZS (show w9.heap.size ≤ wr.heap.size from hg9.size)
   clear hg9
   have Ha := HQ
   clear HQ
   have HAL := Lib.hid (mixB_len h S k)
   by_cases hk8 : k < 8
   ·have hs := mixB_succ h S k
    have c1 := wl_cell Ha.out k (by rw [HAL.out]; exact hk8)
    have e1 : (mixB h S k).getD k 0 = h.getD k 0 := by
     show ((mixB h S k)[k]?).getD 0 = _
     rw [List.getElem?_eq_getElem (by rw [HAL.out]; exact hk8)]
     exact (mixB_at h S k k (by rw [HAL.out]; exact hk8)).trans (if_neg (by omega))
    rw [e1] at c1
    have c2 := wl_cell Hs.out k (by rw [HSL.out, HVL.out]; omega)
    have c3 := wl_cell Hs.out (k + 8) (by rw [HSL.out, HVL.out]; omega)
    generalize h.getD k 0 = x at *
    generalize S.getD k 0 = y at *
    generalize S.getD (k + 8) 0 = z at *
    have g1 := bits_xor y z
    obtain ⟨yz, e2⟩ : ∃ u, y ^^^ z = u := ⟨_, rfl⟩
    rw [e2] at g1
    have g2 := bits_xor x yz
    obtain ⟨u, e3⟩ : ∃ u, x ^^^ yz = u := ⟨_, rfl⟩
    rw [e3] at g2
    rw [show x ^^^ y ^^^ z = u by rw [← e3, ← e2, BitVec.xor_assoc]] at hs
    have HSS := Lib.hid hs
    clear hs e1 e2 e3
    generalize mixB h S k = M at *
    go_wp2_with fail
    refine wp_region_otail 13 (by kernel_rfl) (by kernel_rfl) ?_
    simp only [List.take_succ_cons, List.take_zero, List.drop_succ_cons, List.drop_zero]
    have hov_w_heap_size := fun (E : Over wr) o => E.cell (b := w.heap.size) o Ha.out.lt
    have hov_w8_heap_size := fun (E : Over wr) o => E.cell (b := w8.heap.size) o Hs.out.lt
    repeat (go_big_quiet_step (first | fail))
    all_goals (try unfold elV limbV)
    repeat (go_big_quiet_step (first | fail))
    all_goals (try unfold elV limbV)
    repeat (go_big_quiet_step (first | fail))
    all_goals (try unfold ciphV)
    refine wpQuiet_nil ?_
    rintro _ ⟨E, rfl⟩
    clear hov_w_heap_size hov_w8_heap_size
    replace Hr := Lib.hid (Hr.out.up E.h)
    replace Hs := Lib.hid (Hs.out.up E.h)
    replace Ha := Lib.hid (Ha.out.up E.h)
    replace HK1 := Lib.hid (Kept.up HK1.out E.h)
    replace HB := hbu HB E.h
    replace HZS := sz HZS E.h.size
    obtain ⟨w10, hq9⟩ : ∃ W9 : World, E.w = W9 := ⟨_, rfl⟩
    rw [hq9] at Hr Hs Ha HK1 HB HZS ⊢
    clear hq9 E c1 c2 c3
    have c1 := Ha.out.cell (wlV_get M k (by rw [HAL.out]; exact hk8))
    have f11_a := Ha.out.frozen
    obtain ⟨w11, hq11, hg9, hz9, hx9⟩ := put1 Ha k (.int .u32 (u.toNat : Int)) _ rfl
    replace Hr := Lib.hid (Hr.out.grown hg9.out (sne (by have g0 := HZS.out; omega)))
    replace Hs := Lib.hid (Hs.out.grown hg9.out (sne (by have g0 := HZS.out; omega)))
    replace HK1 := Lib.hid (Kept.grown HK1.out hg9.out (fun q9 e9 => by obtain rfl := Option.some.inj e9; exact Or.inr (rfl)))
    replace HB := hbg HB hg9 (by have g0 := HZS.out; omega)
    replace HZS := sz HZS hz9.out
    replace Ha := hx9
    clear hx9 hg9 hz9
    replace Ha := Lib.hid Ha.out.wset
    go_wp2_with fail
    clear hq11 f11_a c1 g1 g2
    have HQ := Ha
    rw [← HSS.out] at HQ
    go_roundw
    case rel => exact ⟨k + 1, by omega, by go_num, HQ, HK1⟩
    case measure => simp [intOf]; omega
   ·have hk' : k = 8 := by omega
    subst hk'
    rw [HPE.out] at Ha
    have HR := Lib.hid (pressB_len h m n false)
    obtain ⟨R, hR⟩ : ∃ R, pressB h m n false = R := ⟨_, rfl⟩
    rw [hR] at Ha HR
    have HRE := Lib.hid hR
    clear hR
    have HRI := Lib.hid (show (Try.prog.info? 224).map (·.size) = some (wlV R).length by rw [wlV_len, HR.out]; exact info8)
    have HRZ := Lib.hid (show (wlV R).length = (wlV (zw 8)).length by rw [wlV_len, wlV_len, HR.out]; rfl)
    obtain ⟨w5, hq5, hg5, hz5, hr5⟩ := puts Hr 0 (wlV R) (wlV R) (putL_all _ _ HRZ.out)
    have HB5 := hbg HB hg5 (by omega)
    go_wp2_with (first | refine wpList_load_mid rfl 224 (.tmp 4) rfl w.heap.size 0 rfl (wlV R) _ Ha.out.range Try.underlying224 rfl HRI.out ?_ | refine wpList_store_mid rfl 224 (.tmp 8) (.tmp 58) rfl (w.heap.size + 2) 0 (wlV R).toArray rfl rfl (Hr.out.there (by simp [HRZ.out])) (by simpa using HRI.out) (all_oneCell_toArray (wl_one R)) ?_)
    rw [hq5]
    exact ret_arr Try.results204 hr5.out _ rfl Try.underlying224 rfl HRI.out rfl ⟨by rw [HRE.out], HB5.out⟩
end Go.Proofs.Ytjmeakfjfpnciaa
namespace Go.Proofs.Ytjmeakfjfpnciaa
open Go.RowKit Go.Lib
def foldC (h : WL) (n : Nat) (hb : List UInt8) (k : Nat) : List Value := wlV h ++ ([.int .u64 (n : Int)] ++ (byteCells hb ++ [.int .i64 (k : Int)]))
section
variable {h : WL} {n k : Nat} {hb : List UInt8}
theorem foldC_len (hh : h.length = 8) (hl : hb.length = 64) : (foldC h n hb k).length = 74 := by
 unfold foldC; simp [wlV_len, hh, hl, byteCells_length]
theorem foldC_n (hh : h.length = 8) : (foldC h n hb k)[8]? = some (.int .u64 (n : Int)) := by
 unfold foldC
 rw [List.getElem?_append_right (by rw [wlV_len, hh]; exact Nat.le_refl _), wlV_len, hh]
 rfl
theorem foldC_k (hh : h.length = 8) (hl : hb.length = 64) : (foldC h n hb k)[73]? = some (.int .i64 (k : Int)) := by
 unfold foldC
 rw [List.getElem?_append_right (by rw [wlV_len, hh]; decide), wlV_len, hh, List.getElem?_append_right (by simp), List.getElem?_append_right (by rw [byteCells_length, hl]; simp), byteCells_length, hl]
 rfl
theorem foldC_setn (hh : h.length = 8) (m : Nat) : (foldC h n hb k).set 8 (.int .u64 (m : Int)) = foldC h m hb k := by
 unfold foldC
 rw [List.set_append_right _ _ (by rw [wlV_len, hh]; exact Nat.le_refl _), wlV_len, hh]
 rfl
theorem foldC_setk (hh : h.length = 8) (hl : hb.length = 64) (m : Nat) : (foldC h n hb k).set 73 (.int .i64 (m : Int)) = foldC h n hb m := by
 unfold foldC
 rw [List.set_append_right _ _ (by rw [wlV_len, hh]; decide), wlV_len, hh, List.set_append_right _ _ (by simp), List.set_append_right _ _ (by rw [byteCells_length, hl]; simp), byteCells_length, hl]
 rfl
theorem foldC_puth (hh : h.length = 8) (h' : WL) (hh' : h'.length = 8) : putL (foldC h n hb k) 0 (wlV h') = foldC h' n hb k := by
 rw [putL_eq _ _ _ (by unfold foldC; simp [wlV_len, hh, hh']), List.take_zero, List.nil_append, wlV_len, hh', Nat.zero_add]
 unfold foldC
 rw [List.drop_append_of_le_length (by rw [wlV_len, hh]; exact Nat.le_refl _), List.drop_eq_nil_of_le (by rw [wlV_len, hh]; exact Nat.le_refl _), List.nil_append]
theorem byteCells_app (a b : List UInt8) : byteCells (a ++ b) = byteCells a ++ byteCells b := by unfold byteCells; rw [List.map_append]
theorem byteCells_take (a : List UInt8) (j : Nat) : byteCells (a.take j) = (byteCells a).take j := by unfold byteCells; rw [List.map_take]
theorem byteCells_drop (a : List UInt8) (j : Nat) : byteCells (a.drop j) = (byteCells a).drop j := by unfold byteCells; rw [List.map_drop]
theorem foldC_putb (hh : h.length = 8) (hl : hb.length = 64) (j : Nat) (t : List UInt8) (ht : j + t.length ≤ 64) : putL (foldC h n hb k) (9 + j) (byteCells t) = foldC h n (hb.take j ++ t ++ hb.drop (j + t.length)) k := by
 have hw : (wlV h).length = 8 := by rw [wlV_len, hh]
 have hc : (byteCells hb).length = 64 := by rw [byteCells_length, hl]
 rw [putL_eq _ _ _ (by rw [foldC_len hh hl, byteCells_length]; omega), byteCells_length]
 unfold foldC
 rw [byteCells_app, byteCells_app, byteCells_take, byteCells_drop]
 generalize wlV h = H at *
 generalize byteCells hb = X at *
 generalize byteCells t = Y at *
 have e1 : (H ++ ([Value.int .u64 (n : Int)] ++ (X ++ [Value.int .i64 (k : Int)]))).take (9 + j) = H ++ ([.int .u64 (n : Int)] ++ X.take j) := by
  rw [List.take_append, List.take_of_length_le (by omega), hw, show 9 + j - 8 = j + 1 by omega, List.take_append, List.take_of_length_le (by simp), List.length_singleton, show j + 1 - 1 = j by omega, List.take_append_of_le_length (by omega)]
 have e2 : (H ++ ([Value.int .u64 (n : Int)] ++ (X ++ [Value.int .i64 (k : Int)]))).drop (9 + j + t.length) = X.drop (j + t.length) ++ [Value.int .i64 (k : Int)] := by
  rw [List.drop_append, List.drop_eq_nil_of_le (by omega), List.nil_append, hw, show 9 + j + t.length - 8 = j + t.length + 1 by omega, List.drop_append, List.drop_eq_nil_of_le (by simp), List.nil_append, List.length_singleton, show j + t.length + 1 - 1 = j + t.length by omega, List.drop_append_of_le_length (by omega)]
 rw [e1, e2]
 simp
theorem foldC_h {W : World} {b : Nat} {t : TypeId} (hx : Bx W b t (foldC h n hb k)) : W.rangeAt b 0 (wlV h) := hx.part (as1 := []) rfl
theorem foldC_b {W : World} {b : Nat} {t : TypeId} (hh : h.length = 8) (hx : Bx W b t (foldC h n hb k)) : W.rangeAt b 9 (byteCells hb) :=
 Bx.part (as1 := wlV h ++ [.int .u64 (n : Int)]) (bs := [.int .i64 (k : Int)]) (by unfold foldC at hx; simpa using hx) (by simp [wlV_len, hh])
end
def FoldAt (W : World) (b : Nat) (s : List UInt8) : Prop := ∃ h n hb k, Bx W b 266 (foldC h n hb k) ∧ h.length = 8 ∧ Fold s h n hb k ∧ (s = [] ∨ 0 < k)
end Go.Proofs.Ytjmeakfjfpnciaa
namespace Go.Proofs.Ytjmeakfjfpnciaa
open Go.RowKit Go.Lib
theorem info64 : (Try.prog.info? 264).map (·.size) = some 64 := by kernel_rfl
theorem infoB : (Try.prog.info? 5).map (·.size) = some 1 := by kernel_rfl
theorem byte_cell (l : List UInt8) (i : Nat) (h : i < l.length) : (byteCells l)[i]? = some (.int .u8 ((l.getD i 0).toNat : Int)) := by unfold byteCells; simp [List.getD, h]
theorem word_or (l : List UInt8) (k : Nat) (h64 : k < 64) : bits BinOp.or IntKind.u32 ((((wordsB l k).getD (k / 4) 0).toNat : Nat) : Int) (((l.getD k 0).toNat * 256 ^ (k % 4) : Nat) : Int) = (((wordsB l k).getD (k / 4) 0 + BitVec.ofNat 32 ((l.getD k 0).toNat * 256 ^ (k % 4))).toNat : Int) := by
 rw [wordsB_get _ _ _ (by omega)]
 have hb := (l.getD k 0).toNat_lt
 have hr : k % 4 = 0 ∨ k % 4 = 1 ∨ k % 4 = 2 ∨ k % 4 = 3 := by omega
 have h0 := byteW_lt l k (4 * (k / 4))
 have h1 := byteW_lt l k (4 * (k / 4) + 1)
 have h2 := byteW_lt l k (4 * (k / 4) + 2)
 have hz : ∀ j, k ≤ j → byteW l k j = 0 := fun j hj => by unfold byteW; rw [if_neg (by omega)]
 have hlt : (wordB l k (k / 4)).toNat < 256 ^ (k % 4) := by
  unfold wordB
  rw [BitVec.toNat_ofNat]
  rcases hr with hr | hr | hr | hr
  ·rw [hr, hz _ (by omega), hz _ (by omega), hz _ (by omega), hz _ (by omega)]; decide
  ·rw [hr, hz (4 * (k / 4) + 1) (by omega), hz (4 * (k / 4) + 2) (by omega), hz (4 * (k / 4) + 3) (by omega)]
   simp only [Nat.reducePow]; omega
  ·rw [hr, hz (4 * (k / 4) + 2) (by omega), hz (4 * (k / 4) + 3) (by omega)]
   simp only [Nat.reducePow]; omega
  ·rw [hr, hz (4 * (k / 4) + 3) (by omega)]
   simp only [Nat.reducePow]; omega
 generalize wordB l k (k / 4) = W at *
 generalize (l.getD k 0).toNat = c at *
 have hc : c * 256 ^ (k % 4) < 4294967296 := by rcases hr with hr | hr | hr | hr <;> rw [hr] <;> simp only [Nat.reducePow] <;> omega
 have hW := W.isLt
 rw [bits_or _ _ hW hc, BitVec.toNat_add, BitVec.toNat_ofNat, Nat.mod_eq_of_lt hc]
 have e : W.toNat ||| c * 256 ^ (k % 4) = W.toNat + c * 256 ^ (k % 4) := by
  rw [show 256 ^ (k % 4) = 2 ^ (8 * (k % 4)) by rw [Nat.pow_mul], Nat.or_comm, ← Nat.shiftLeft_eq, ← Nat.shiftLeft_add_eq_or_of_lt (by rwa [Nat.pow_mul]), Nat.add_comm]
 rw [e, Nat.mod_eq_of_lt (a := W.toNat + c * 256 ^ (k % 4))]
 rcases hr with hr | hr | hr | hr <;> rw [hr] at hlt ⊢ <;> simp only [Nat.reducePow] at * <;> omega
theorem word_or2 (l : List UInt8) (k : Nat) (h64 : k < 64) : bits BinOp.or IntKind.u32 (((wordsB l k).getD (k / 4) 0).toNat : Int) (((l.getD k 0).toNat : Int) * 2 ^ (8 * (k % 4)) % 4294967296) = (((wordsB l k).getD (k / 4) 0 + BitVec.ofNat 32 ((l.getD k 0).toNat * 256 ^ (k % 4))).toNat : Int) := by
 rw [← word_or l k h64]
 congr 1
 have hb := (l.getD k 0).toNat_lt
 have hr : k % 4 = 0 ∨ k % 4 = 1 ∨ k % 4 = 2 ∨ k % 4 = 3 := by omega
 generalize (l.getD k 0).toNat = c at *
 rcases hr with hr | hr | hr | hr <;> rw [hr] <;> simp <;> omega
theorem words_any (h : WL) (n : Nat) (hb : List UInt8) (k : Nat) (hh : h.length = 8) (hl : hb.length = 64) (b : Nat) (w : World) (hx : Bx w b 266 (foldC h n hb k)) :
  Calls Try.prog 205 #[.pointer (some ⟨b, 0, none⟩)] w fun e w' => e = .returned (.agg (wlV (wordsB hb 64)).toArray) ∧ Below w.heap.size w w' := by
 have HL := Lib.hid hl
 have HI := Lib.hid (show (Try.prog.info? 264).map (·.size) = some (byteCells hb).length by rw [byteCells_length, hl]; exact info64)
 have hz : (#[.int .u32 0, .int .u32 0, .int .u32 0, .int .u32 0, .int .u32 0, .int .u32 0, .int .u32 0, .int .u32 0, .int .u32 0, .int .u32 0, .int .u32 0, .int .u32 0, .int .u32 0, .int .u32 0, .int .u32 0, .int .u32 0] : Array Value) = (wlV (wordsB hb 0)).toArray := by rw [wordsB_zero]; rfl
 have HH := Lib.hid hh
 have Hf := Lib.hid hx
 clear hl hh hx
 go_enter Try.func205, Try.ntmps205
 go_upto_region 1 with (fail)
 obtain ⟨w1, hq1, hb9, hz9, Hr⟩ := new1 w 226 (wlV (wordsB hb 0))
 rw [hq1]
 clear hq1
 replace Hf := Lib.hid (Hf.out.up hb9)
 have HB := Lib.hid hb9
 have HZS := hz9
 clear hb9 hz9
 go_wp2_with (refine wpList_load_mid rfl 264 (.tmp 7) rfl b 9 rfl (byteCells hb) _ (foldC_b HH.out Hf.out) Try.underlying264 rfl HI.out ?_)
 clear hz HI Hf
 have HK := Lib.hid (Kept.refl (fun q9 => q9 = w.heap.size) w1)
 go_loopw [9] (fun c wr => ∃ j : Nat, j ≤ 64 ∧ c = .int .i64 j ∧ Hid (Bx wr w.heap.size 226 (wlV (wordsB hb j))) ∧ Hid (Below w.heap.size w wr)) (fun c _ => 64 - (RowKit.intOf c).toNat)
 case atStart => exact ⟨0, by omega, rfl, Hr, HB⟩
 case round =>
  obtain ⟨j, hj, rfl, HQ, HB2⟩ := hrel
  clear HK HB Hr
  have HB := HB2
  have Hr := HQ
  clear HB2 HQ
  have HWL := Lib.hid (wordsB_len hb j)
  by_cases hj6 : j < 64
  ·have hix := fun W => run_index_arr (P := Try.prog) W 264 5 .u8 64 (byteCells hb) j _ (byte_cell hb j (by rw [HL.out]; exact hj6)) Try.underlying264 (by rw [byteCells_length, HL.out]) infoB Try.underlying5
   have hs := wordsB_succ hb j hj6
   have ho := word_or2 hb j hj6
   have c1 := wl_cell Hr.out (j / 4) (by rw [HWL.out]; omega)
   have a1 : (0 : Int) ≤ ((j / 4 : Nat) : Int) := by omega
   have a2 : ((j / 4 : Nat) : Int) < 16 := by omega
   obtain ⟨Z, hZ⟩ : ∃ Z, (wordsB hb j).getD (j / 4) 0 + BitVec.ofNat 32 ((hb.getD j 0).toNat * 256 ^ (j % 4)) = Z := ⟨_, rfl⟩
   rw [hZ] at ho hs
   have HS := Lib.hid hs
   clear hs hZ
   generalize hb.getD j 0 = cb at *
   generalize (wordsB hb j).getD (j / 4) 0 = X at *
   have hcb := cb.toNat_lt
   have a3 : (0 : Int) ≤ 8 * ((j : Int) % 4) := by omega
   have a4 : 8 * ((j : Int) % 4) ≤ 24 := by omega
   go_wp2_with fail
   refine wp_region_otail 12 (by kernel_rfl) (by kernel_rfl) ?_
   simp only [List.take_succ_cons, List.take_zero, List.drop_succ_cons, List.drop_zero]
   have hov_w_heap_size := fun (E : Over wr) o => E.cell (b := w.heap.size) o Hr.out.lt
   repeat (go_big_quiet_step (first | fail))
   all_goals (try unfold elV limbV)
   repeat (go_big_quiet_step (first | fail))
   all_goals (try unfold elV limbV)
   repeat (go_big_quiet_step (first | fail))
   all_goals (try unfold ciphV)
   refine wpQuiet_nil ?_
   rintro _ ⟨E, rfl⟩
   clear hov_w_heap_size
   replace Hr := Lib.hid (Hr.out.up E.h)
   replace HB := hbu HB E.h
   replace HZS := sz HZS E.h.size
   obtain ⟨w2, hq9⟩ : ∃ W9 : World, E.w = W9 := ⟨_, rfl⟩
   rw [hq9] at Hr HB HZS ⊢
   clear hq9 E c1
   have c1 := Hr.out.cell (wlV_get (wordsB hb j) (j / 4) (by rw [HWL.out]; omega))
   have f3_r := Hr.out.frozen
   obtain ⟨w3, hq3, hg9, hz9, hx9⟩ := put1 Hr (j / 4) (.int .u32 (Z.toNat : Int)) _ rfl
   replace HB := hbg HB hg9 (by have g0 := HZS.out; omega)
   replace HZS := sz HZS hz9.out
   replace Hr := hx9
   clear hx9 hg9 hz9
   replace Hr := Lib.hid Hr.out.wset
   rw [← HS.out] at Hr
   go_wp2_with fail
   clear hq3 f3_r c1 ho hix
   go_roundw
   case rel => exact ⟨j + 1, by omega, by go_num, Hr, HB⟩
   case measure => simp [RowKit.intOf]; omega
  ·have hj' : j = 64 := by omega
   subst hj'
   have HWI := Lib.hid (show (Try.prog.info? 226).map (·.size) = some (wlV (wordsB hb 64)).length by rw [wlV_len, HWL.out]; exact info16)
   obtain ⟨V, hV⟩ : ∃ V, wordsB hb 64 = V := ⟨_, rfl⟩
   rw [hV] at Hr HWI HWL
   have HVE := Lib.hid hV
   clear hV
   obtain ⟨w5, hq5, hg5, hz5, hr5⟩ := puts Hr 0 (wlV V) (wlV V) (putL_all _ _ rfl)
   have HB5 := hbg HB hg5 (by omega)
   go_wp2_with (first | refine wpList_load_mid rfl 226 (.tmp 2) rfl w.heap.size 0 rfl (wlV V) _ Hr.out.range Try.underlying226 rfl HWI.out ?_ | refine wpList_store_mid rfl 226 (.tmp 2) (.tmp 26) rfl w.heap.size 0 (wlV V).toArray rfl rfl (Hr.out.there (by simp)) (by simpa using HWI.out) (all_oneCell_toArray (wl_one V)) ?_)
   rw [hq5]
   exact ret_arr Try.results205 hr5.out _ rfl Try.underlying226 rfl HWI.out rfl ⟨by rw [HVE.out], HB5.out⟩
end Go.Proofs.Ytjmeakfjfpnciaa
