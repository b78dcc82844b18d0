/- Texts of this seat, one behind the other: what TrustShares leans on. No condition beyond those that each names. -/
import Derived.WalkKit
import Derived.WalkSpells
import Derived.WalkLawsBesides
import Derived.Lib.Hide
import Derived.BigQuiet
import Derived.Deep.AppendLies
import Derived.Laws.AppendOwnNone
import Derived.StillTailTactics
import Derived.OrdersHeld
import Derived.Shelf.Strings.Builder1
import Derived.Shelf.Strings.Builder2
import Derived.Shelf.Small.Bits
import Derived.Shelf.Strings.BuilderF
import Derived.Shelf.Strings.BuilderK
import Derived.Shelf.Strings.Builder2Cap
import Derived.Shelf.Strconv.Itoa0
import Derived.Shelf.Bits.Mul64
import Derived.Shelf.Strings.BuilderCap
import Derived.Test.YtjmeakfjfpnciaaProg
import Derived.Shelf.Spec.BitsCarry
import Derived.BigRegion
import Derived.Laws.Cover3
import Derived.Laws.BitsAllLaws
import Derived.Lib.EndianBits
import Derived.Deep.QuietTactic
import Derived.Laws.BytesArg

set_option maxRecDepth 100000
set_option maxHeartbeats 4000000
set_option linter.unusedVariables false
set_option linter.unusedSimpArgs false
namespace Go.Proofs.Ytjmeakfjfpnciaa
open Go.RowKit
theorem below_up {W w w1 : World} (h : Below W.heap.size W w) (h1 : Below w.heap.size w w1) : Below W.heap.size W w1 :=
 h.trans (h1.mono h.size)
theorem below_grown {w w' : World} (h : Below w.heap.size w w') : w.grownBy w' none :=
 ⟨h.os, h.tape, h.output, h.size, fun k hk _ => h.block k hk⟩
theorem ret_int {k : IntKind} {a b : Int} (h : a = b) : Ending.returned (.int k a) = .returned (.int k b) := by rw [h]
theorem ret_bool {a b : Bool} (h : a = b) : Ending.returned (.bool a) = .returned (.bool b) := by rw [h]
def Sl (w : World) (B : Nat) (a : Option Addr) (cs : List Value) : Prop :=
 cs = [] ∨ ∃ b off, a = some ⟨b, off, none⟩ ∧ b < B ∧ ∀ i v, cs[i]? = some v → w.cell? ⟨b, off + i, none⟩ = some v
theorem Sl.at {w : World} {B : Nat} {a : Option Addr} {cs : List Value} (h : Sl w B a cs) (i : Nat) (hi : i < cs.length) :
  ∃ b off, a = some ⟨b, off, none⟩ ∧ b < B ∧ w.cell? ⟨b, off + i, none⟩ = some cs[i] := by
 rcases h with rfl | ⟨b, off, rfl, hb, hc⟩
 ·simp at hi
 ·exact ⟨b, off, rfl, hb, hc i _ (List.getElem?_eq_getElem hi)⟩
theorem Sl.below {w w1 : World} {B : Nat} {a : Option Addr} {cs : List Value} (h : Sl w B a cs) (hb : Below B w w1) : Sl w1 B a cs := by
 rcases h with rfl | ⟨b, off, rfl, hB, hc⟩
 ·exact Or.inl rfl
 ·exact Or.inr ⟨b, off, rfl, hB, fun i v hv => by rw [hb.cell (p := ⟨b, off + i, none⟩) hB]; exact hc i v hv⟩
structure Over (W : World) where
 w : World
 h : Below W.heap.size W w
instance (W : World) : Nonempty (Over W) := ⟨⟨W, Below.refl _ _⟩⟩
theorem Over.cell {W : World} (E : Over W) {b : Nat} (o : Nat) (h : b < W.heap.size) : E.w.cell? ⟨b, o, none⟩ = W.cell? ⟨b, o, none⟩ := E.h.cell (p := ⟨b, o, none⟩) h
theorem wp_region_over {P : Program} {id : Nat} {Q : Exit → Act → World → Prop} {a : Act} {w : World} {l : List Oper} (hm : P.follows .mixedOrders = true) (hB : Region.lexB .any l.toArray = true)
  (h : wpQuiet P l.toArray (fun w' => ∃ E : Over w, w' = E.w) (fun a' => ∀ w', (∃ E : Over w, w' = E.w) → Q .normal a' w') l a) : (Code.region id l.toArray true).wp P Q a w :=
 wp_region_quiet (C := fun w' => ∃ E : Over w, w' = E.w) hm hB ⟨⟨_, (Below.refl _ _).drew⟩, rfl⟩ (by simpa using h)
theorem calls_over {P : Program} {f : FuncId} {args : Array Value} {W : World} {E : Over W} {v : Value}
  (h : Calls P f args E.w fun e w' => e = .returned v ∧ Below E.w.heap.size E.w w') : Calls P f args E.w fun e w'' => e = .returned v ∧ ∃ E' : Over W, w'' = E'.w :=
 h.mono fun _ w' ⟨he, hb⟩ => ⟨he, ⟨w', below_up E.h hb⟩, rfl⟩
theorem Sl.mono {w : World} {B B' : Nat} {a : Option Addr} {cs : List Value} (h : Sl w B a cs) (hB : B ≤ B') : Sl w B' a cs := by
 rcases h with rfl | ⟨b, off, rfl, hb, hc⟩
 ·exact Or.inl rfl
 ·exact Or.inr ⟨b, off, rfl, by omega, hc⟩
theorem Sl.up {W w : World} {a : Option Addr} {cs : List Value} (h : Sl W W.heap.size a cs) (hb : Below W.heap.size W w) : Sl w w.heap.size a cs :=
 (h.below hb).mono hb.size
end Go.Proofs.Ytjmeakfjfpnciaa
namespace Go.Proofs.Ytjmeakfjfpnciaa
open Go.RowKit
section
variable {w w' : World} {u v : Value} {g base e k n c m : Nat} {xs : List Value}
end
section
variable {w w' : World} {u v v' : Value} {base e k n m : Nat} {xs : List Value}
end
end Go.Proofs.Ytjmeakfjfpnciaa
namespace Go.Proofs.Ytjmeakfjfpnciaa
open Go.RowKit
def plainOp (o : Oper) : Bool :=
 match o.op with
 | .move _ | .assign _ | .pick _ _ _ | .build _ _ | .load _ _ | .binOp _ _ _ _ _ | .unOp _ _ _ | .convert _ _ _ | .slice _ _ _ _ _ | .fieldAddr _ _ _ | .field _ _ _ | .indexAddr _ _ _ | .index _ _ _
 | .lookup _ _ _ _ | .extract _ _ | .makeInterface _ _ | .makeFunc _ _ _ => true
 | .call c => match c.callee with
  | .builtin .len | .builtin .cap => true
  | _ => false
 | _ => false
theorem run_value {α : Type} {P : Program} (s : Sem α) (f : α → Value) (w : World) {n : Next} {w' : World} (h : Sem.run P (do pure (Next.value (f (← s)))) w = .ok n w') : ∃ x, n = .value x := by
 rw [Sem.run_bind] at h
 cases hs : Sem.run P s w with
 | ok x w1 => rw [hs] at h; simp [Result.andThen] at h; exact ⟨_, h.1.symm⟩
 | halt x w1 => rw [hs] at h; simp [Result.andThen] at h
theorem plain_value {P : Program} {ρ : Operand → Value} {o : Oper} (hp : plainOp o = true) {w w' : World} {n : Next} (h : (execOp ρ o).run P w = .ok n w') : ∃ x, n = .value x := by
 unfold execOp at h
 unfold plainOp at hp
 split at h
 all_goals first
  | exact run_value _ (fun x => x) _ h
  | (simp_all; done)
  | (simp at h; exact ⟨_, h.1.symm⟩)
  | (rename_i c _ _ _; exact run_value (asBool (ρ c)) (fun b => if b = true then _ else _) _ h)
  | skip
 rename_i c hc
 rw [hc] at hp
 simp only at hp
 split at hp
 ·rename_i hl
  simp [resolve, hl, invoke, builtin] at h
  exact run_value _ (fun x => x) _ (by simpa using h)
 ·rename_i hl
  simp [resolve, hl, invoke, builtin] at h
  exact run_value _ (fun x => x) _ (by simpa using h)
 ·cases hp
def wpFlat (P : Program) (ops : Array Oper) (S : World → Prop) (Q : Exit → Act → World → Prop) : List (Nat × Bool) → Act → World → Prop
 | [], a, w => Q .normal a w
 | (i, true) :: r, a, w => match ops[i]? with
  | none => False
  | some o => plainOp o = true ∧ wpQuiet P ops S (fun a' => wpFlat P ops S Q r a' w) [o] a
 | (i, false) :: r, a, w => wpOp P ops Q i (fun a' w' => S w' ∧ wpFlat P ops S Q r a' w') a w
def flatB (md : Region.Mode) (ops : Array Oper) : List (Nat × Bool) → Array Bool → Bool
 | [], listed => (Region.ready md ops listed).isEmpty
 | (i, true) :: r, listed => (Region.ready md ops listed).contains i && Region.free md ops listed i && flatB md ops r (listed.setIfInBounds i true)
 | (i, false) :: r, listed => decide (Region.ready md ops listed = [i]) && flatB md ops r (listed.setIfInBounds i true)
section
variable {P : Program} {ops : Array Oper} {S : World → Prop} {Q : Exit → Act → World → Prop}
theorem yieldsIf_of_quiet {o : Oper} {a : Act} {K : Act → Prop} (hp : plainOp o = true) (h : wpQuiet P ops S K [o] a) : ∃ v, YieldsIf P ops S o v a ∧ K (a.put o.dst v) := by
 unfold wpQuiet at h
 by_cases hw : Region.wanted o (yielded ops a.tmps) = true
 ·rw [if_pos hw] at h
  obtain ⟨v, h1, h2⟩ := h
  refine ⟨v, Or.inl ⟨hw, fun w hw' => ?_⟩, h2⟩
  have h3 := h1 w hw'
  unfold Oper.quietAt at h3
  cases hr : (execOp a.eval o).run P w with
  | ok n w1 =>
   obtain ⟨x, rfl⟩ := plain_value hp hr
   rw [hr] at h3
   simp only [Oper.quietUpon] at h3
   rw [h3.1, h3.2]
  | halt x w1 =>
   rw [hr] at h3
   simp only [Oper.quietUpon] at h3
 ·rw [if_neg hw] at h
  exact ⟨undef, Or.inr ⟨by simpa using hw, rfl⟩, h⟩
theorem held_of_flat {md : Region.Mode} (hsel : Region.noSelect ops = true) (hQ : ∀ c a d v w, Q (.panic c) (a.put d v) w → Q (.panic c) a w) :
  ∀ (order : List (Nat × Bool)) (listed : Array Bool) (a : Act) (w : World), S w → flatB md ops order listed = true → wpFlat P ops S Q order a w → wpAnyH P md ops Q S order.length listed a w
 | [], listed, a, w, _, hB, h => wpAnyH_done (by simpa [flatB] using hB) h 0
 | (i, true) :: r, listed, a, w, hS, hB, h => by
  unfold wpFlat at h
  split at h
  ·cases h
  ·rename_i o ho
   obtain ⟨hp, hq⟩ := h
   obtain ⟨v, hy, hK⟩ := yieldsIf_of_quiet hp hq
   simp only [flatB, Bool.and_eq_true] at hB
   exact wpAnyH_take ho hsel hB.1.2 hB.1.1 (fun c a w hq => hQ c a _ _ w hq) hy hS (held_of_flat hsel hQ r _ _ w hS hB.2 hK)
 | (i, false) :: r, listed, a, w, hS, hB, h => by
  simp only [flatB, Bool.and_eq_true, decide_eq_true_eq] at hB
  unfold wpFlat at h
  refine wpAnyH_all hB.1 (by simp) ?_
  intro j hj
  have hj' : j = i := by simpa using hj
  subst hj'
  exact wpOp_mono (fun a' w' ⟨hS', h'⟩ => ⟨hS', held_of_flat hsel hQ r _ a' w' hS' hB.2 h'⟩) h
theorem wp_region_flat {id : Nat} {a : Act} {w : World} {l : List Oper} (S : World → Prop) (order : List (Nat × Bool)) (hm : P.follows .mixedOrders = true)
  (hB : (Region.noSelect l.toArray && decide (order.length = l.toArray.size) && flatB .any l.toArray order (Array.replicate l.toArray.size false)) = true)
  (hQ : ∀ c a d v w, Q (.panic c) (a.put d v) w → Q (.panic c) a w) (hS : S w.drew) (h : wpFlat P l.toArray S Q order a w.drew) : (Code.region id l.toArray true).wp P Q a w := by
 simp only [Bool.and_eq_true, decide_eq_true_eq] at hB
 refine wp_region_held (S := S) hm ?_
 have := held_of_flat hB.1.1 hQ order _ a _ hS hB.2 h
 rw [hB.1.2] at this
 exact this
theorem flat_q {l : List Oper} {i : Nat} {r : List (Nat × Bool)} {o : Oper} {a : Act} {w : World} (ho : l[i]? = some o) (hp : plainOp o = true) (h : wpQuiet P l.toArray S (fun a' => wpFlat P l.toArray S Q r a' w) [o] a) :
  wpFlat P l.toArray S Q ((i, true) :: r) a w := by
 unfold wpFlat
 rw [List.getElem?_toArray, ho]
 exact ⟨hp, h⟩
theorem flat_a {l : List Oper} {i : Nat} {r : List (Nat × Bool)} {o : Oper} {a : Act} {w : World} (ho : l[i]? = some o)
  (h : ∀ K : Act → World → Prop, (∀ a w, S w ∧ wpFlat P l.toArray S Q r a w → K a w) → if Region.wanted o (yielded l.toArray a.tmps) = true then Oper.wp P o a w K Q else K (a.put o.dst undef) w) :
  wpFlat P l.toArray S Q ((i, false) :: r) a w := by
 unfold wpFlat
 exact wpOp_step (by rw [List.getElem?_toArray, ho]) h
theorem flat_end {a : Act} {w : World} (h : Q .normal a w) : wpFlat P ops S Q [] a w := h
end
structure But (W : World) (row : Option Nat) where
 w : World
 h : W.grownBy w row
instance (W : World) (row : Option Nat) : Nonempty (But W row) := ⟨⟨W, ⟨rfl, rfl, rfl, Nat.le_refl _, fun _ _ _ => rfl⟩⟩⟩
theorem But.cell {W : World} {row : Option Nat} (E : But W row) {b : Nat} (o : Nat) (hb : b < W.heap.size) (hr : row ≠ some b) : E.w.cell? ⟨b, o, none⟩ = W.cell? ⟨b, o, none⟩ :=
 World.cell?_of_block (w := W) (a := ⟨b, o, none⟩) (E.h.block b hb (fun e => hr e.symm))
theorem but_of {W w : World} {row : Option Nat} (h : W.grownBy w row) : ∃ E : But W row, w = E.w := ⟨⟨w, h⟩, rfl⟩
theorem grownBy_refl (W : World) (row : Option Nat) : W.grownBy W row := ⟨rfl, rfl, rfl, Nat.le_refl _, fun _ _ _ => rfl⟩
theorem grownBy_drew {W w : World} {row : Option Nat} (h : W.grownBy w row) : W.grownBy w.drew row := ⟨h.os, h.tape, h.output, h.size, h.block⟩
theorem grownBy_below {W w w' : World} {row : Option Nat} (h : W.grownBy w row) (hb : Below w.heap.size w w') : W.grownBy w' row :=
 ⟨hb.os.trans h.os, hb.tape.trans h.tape, hb.output.trans h.output, Nat.le_trans h.size hb.size, fun k hk hr => by rw [hb.block k (Nat.lt_of_lt_of_le hk h.size)]; exact h.block k hk hr⟩
end Go.Proofs.Ytjmeakfjfpnciaa
namespace Go.Proofs.Ytjmeakfjfpnciaa
open Go.RowKit
def isNilCheck (o : Oper) : Bool := match o.op with | .nilCheck _ => true | _ => false
theorem nilCheck_value {P : Program} {ρ : Operand → Value} {o : Oper} (hp : isNilCheck o = true) {w w' : World} {n : Next} (h : (execOp ρ o).run P w = .ok n w') : ∃ x, n = .value x := by
 unfold isNilCheck at hp
 split at hp
 ·rename_i x hx
  unfold execOp at h
  rw [hx] at h
  simp only at h
  split at h
  all_goals first
   | (simp at h; exact ⟨_, h.1.symm⟩)
   | (simp [runtimePanic] at h; done)
   | skip
  split at h
  ·simp [runtimePanic] at h
  ·rw [Sem.run_bind] at h
   cases hs : Sem.run P program w with
   | halt x w1 => rw [hs] at h; simp [Result.andThen] at h
   | ok pr w1 =>
    rw [hs] at h
    simp only [Result.andThen] at h
    rw [Sem.run_bind] at h
    cases hs2 : Sem.run P (nilAhead (pr.types.size + Made.depth) ‹_› ‹_› ‹_›) w1 with
    | halt x w2 => rw [hs2] at h; simp [Result.andThen] at h
    | ok z w2 =>
     rw [hs2] at h
     simp only [Result.andThen] at h
     split at h
     ·simp [unsupported] at h
     ·simp at h
      exact ⟨_, h.1.symm⟩
  ·simp at h
   exact ⟨_, h.1.symm⟩
 ·cases hp
def easyOp (o : Oper) : Bool := plainOp o || isNilCheck o
theorem easy_value {P : Program} {ρ : Operand → Value} {o : Oper} (hp : easyOp o = true) {w w' : World} {n : Next} (h : (execOp ρ o).run P w = .ok n w') : ∃ x, n = .value x := by
 unfold easyOp at hp
 cases hq : plainOp o with
 | true => exact plain_value hq h
 | false => rw [hq] at hp; exact nilCheck_value (by simpa using hp) h
inductive Tree where
 | done : Tree
 | q : Nat → Tree → Tree
 | a : Nat → Tree → Tree
 | two : Nat → Tree → Nat → Tree → Tree
def Tree.qs : List Nat → Tree → Tree
 | [], t => t
 | i :: l, t => .q i (Tree.qs l t)
def Tree.size : Tree → Nat
 | .done => 0
 | .q _ r => r.size + 1
 | .a _ r => r.size + 1
 | .two _ r _ _ => r.size + 1
def wpTree (P : Program) (ops : Array Oper) (S : World → Prop) (Q : Exit → Act → World → Prop) : Tree → Act → World → Prop
 | .done, a, w => Q .normal a w
 | .q i r, a, w => match ops[i]? with
  | none => False
  | some o => easyOp o = true ∧ wpQuiet P ops S (fun a' => wpTree P ops S Q r a' w) [o] a
 | .a i r, a, w => wpOp P ops Q i (fun a' w' => S w' ∧ wpTree P ops S Q r a' w') a w
 | .two i r j s, a, w => wpOp P ops Q i (fun a' w' => S w' ∧ wpTree P ops S Q r a' w') a w ∧ wpOp P ops Q j (fun a' w' => S w' ∧ wpTree P ops S Q s a' w') a w
def treeB (md : Region.Mode) (ops : Array Oper) : Tree → Array Bool → Bool
 | .done, listed => (Region.ready md ops listed).isEmpty
 | .q i r, listed => (Region.ready md ops listed).contains i && Region.free md ops listed i && treeB md ops r (listed.setIfInBounds i true)
 | .a i r, listed => decide (Region.ready md ops listed = [i]) && treeB md ops r (listed.setIfInBounds i true)
 | .two i r j s, listed => decide (Region.ready md ops listed = [i, j]) && decide (r.size = s.size) && treeB md ops r (listed.setIfInBounds i true) && treeB md ops s (listed.setIfInBounds j true)
section
variable {P : Program} {ops : Array Oper} {S : World → Prop} {Q : Exit → Act → World → Prop}
theorem yieldsIf_easy {o : Oper} {a : Act} {K : Act → Prop} (hp : easyOp o = true) (h : wpQuiet P ops S K [o] a) : ∃ v, YieldsIf P ops S o v a ∧ K (a.put o.dst v) := by
 unfold wpQuiet at h
 by_cases hw : Region.wanted o (yielded ops a.tmps) = true
 ·rw [if_pos hw] at h
  obtain ⟨v, h1, h2⟩ := h
  refine ⟨v, Or.inl ⟨hw, fun w hw' => ?_⟩, h2⟩
  have h3 := h1 w hw'
  unfold Oper.quietAt at h3
  cases hr : (execOp a.eval o).run P w with
  | ok n w1 =>
   obtain ⟨x, rfl⟩ := easy_value hp hr
   rw [hr] at h3
   simp only [Oper.quietUpon] at h3
   rw [h3.1, h3.2]
  | halt x w1 =>
   rw [hr] at h3
   simp only [Oper.quietUpon] at h3
 ·rw [if_neg hw] at h
  exact ⟨undef, Or.inr ⟨by simpa using hw, rfl⟩, h⟩
theorem held_of_tree {md : Region.Mode} (hsel : Region.noSelect ops = true) (hQ : ∀ c a d v w, Q (.panic c) (a.put d v) w → Q (.panic c) a w) :
  ∀ (t : Tree) (listed : Array Bool) (a : Act) (w : World), S w → treeB md ops t listed = true → wpTree P ops S Q t a w → wpAnyH P md ops Q S t.size listed a w
 | .done, listed, a, w, _, hB, h => wpAnyH_done (by simpa [treeB] using hB) h 0
 | .q i r, listed, a, w, hS, hB, h => by
  unfold wpTree at h
  split at h
  ·cases h
  ·rename_i o ho
   obtain ⟨hp, hq⟩ := h
   obtain ⟨v, hy, hK⟩ := yieldsIf_easy hp hq
   simp only [treeB, Bool.and_eq_true] at hB
   exact wpAnyH_take ho hsel hB.1.2 hB.1.1 (fun c a w hq => hQ c a _ _ w hq) hy hS (held_of_tree hsel hQ r _ _ w hS hB.2 hK)
 | .a i r, listed, a, w, hS, hB, h => by
  simp only [treeB, Bool.and_eq_true, decide_eq_true_eq] at hB
  unfold wpTree at h
  refine wpAnyH_all hB.1 (by simp) ?_
  intro j hj
  have hj' : j = i := by simpa using hj
  subst hj'
  exact wpOp_mono (fun a' w' ⟨hS', h'⟩ => ⟨hS', held_of_tree hsel hQ r _ a' w' hS' hB.2 h'⟩) h
 | .two i r j s, listed, a, w, hS, hB, h => by
  simp only [treeB, Bool.and_eq_true, decide_eq_true_eq] at hB
  obtain ⟨⟨⟨h1, h2⟩, h3⟩, h4⟩ := hB
  unfold wpTree at h
  refine wpAnyH_all h1 (by simp) ?_
  intro k hk
  rcases (by simpa using hk : k = i ∨ k = j) with rfl | rfl
  ·exact wpOp_mono (fun a' w' ⟨hS', h'⟩ => ⟨hS', held_of_tree hsel hQ r _ a' w' hS' h3 h'⟩) h.1
  ·exact wpOp_mono (fun a' w' ⟨hS', h'⟩ => ⟨hS', by rw [h2]; exact held_of_tree hsel hQ s _ a' w' hS' h4 h'⟩) h.2
theorem wp_region_tree {id : Nat} {a : Act} {w : World} {l : List Oper} (S : World → Prop) (t : Tree) (hm : P.follows .mixedOrders = true)
  (hB : (Region.noSelect l.toArray && decide (t.size = l.toArray.size) && treeB .any l.toArray t (Array.replicate l.toArray.size false)) = true)
  (hQ : ∀ c a d v w, Q (.panic c) (a.put d v) w → Q (.panic c) a w) (hS : S w.drew) (h : wpTree P l.toArray S Q t a w.drew) : (Code.region id l.toArray true).wp P Q a w := by
 simp only [Bool.and_eq_true, decide_eq_true_eq] at hB
 refine wp_region_held (S := S) hm ?_
 have := held_of_tree hB.1.1 hQ t _ a _ hS hB.2 h
 rw [hB.1.2] at this
 exact this
theorem tree_q {l : List Oper} {i : Nat} {r : Tree} {o : Oper} {a : Act} {w : World} (ho : l[i]? = some o) (hp : easyOp o = true) (h : wpQuiet P l.toArray S (fun a' => wpTree P l.toArray S Q r a' w) [o] a) :
  wpTree P l.toArray S Q (.q i r) a w := by
 unfold wpTree
 rw [List.getElem?_toArray, ho]
 exact ⟨hp, h⟩
theorem tree_a {l : List Oper} {i : Nat} {r : Tree} {o : Oper} {a : Act} {w : World} (ho : l[i]? = some o)
  (h : ∀ K : Act → World → Prop, (∀ a w, S w ∧ wpTree P l.toArray S Q r a w → K a w) → if Region.wanted o (yielded l.toArray a.tmps) = true then Oper.wp P o a w K Q else K (a.put o.dst undef) w) :
  wpTree P l.toArray S Q (.a i r) a w := by
 unfold wpTree
 exact wpOp_step (by rw [List.getElem?_toArray, ho]) h
theorem tree_two {l : List Oper} {i j : Nat} {r s : Tree} {o u : Oper} {a : Act} {w : World} (ho : l[i]? = some o) (hu : l[j]? = some u)
  (h : ∀ K : Act → World → Prop, (∀ a w, S w ∧ wpTree P l.toArray S Q r a w → K a w) → if Region.wanted o (yielded l.toArray a.tmps) = true then Oper.wp P o a w K Q else K (a.put o.dst undef) w)
  (h' : ∀ K : Act → World → Prop, (∀ a w, S w ∧ wpTree P l.toArray S Q s a w → K a w) → if Region.wanted u (yielded l.toArray a.tmps) = true then Oper.wp P u a w K Q else K (a.put u.dst undef) w) :
  wpTree P l.toArray S Q (.two i r j s) a w := by
 unfold wpTree
 exact ⟨wpOp_step (by rw [List.getElem?_toArray, ho]) h, wpOp_step (by rw [List.getElem?_toArray, hu]) h'⟩
theorem tree_end {a : Act} {w : World} (h : Q .normal a w) : wpTree P ops S Q .done a w := h
end
end Go.Proofs.Ytjmeakfjfpnciaa
namespace Go.Proofs.Ytjmeakfjfpnciaa
abbrev BB : Nat := 18446744073709551616
theorem mod3 (x y c : Nat) : (x % BB + y % BB + c) % BB = (x + y + c) % BB := by
 show (x % 18446744073709551616 + y % 18446744073709551616 + c) % 18446744073709551616 = (x + y + c) % 18446744073709551616
 omega
theorem mod3u (x y K u : Nat) (hu : u ≤ 1) (hy : y < BB * K) : (x % BB + BB - y % BB - u) % BB = (x + BB * K - y - u) % BB := by
 have hy' : y < 18446744073709551616 * K := hy
 show (x % 18446744073709551616 + 18446744073709551616 - y % 18446744073709551616 - u) % 18446744073709551616 = (x + 18446744073709551616 * K - y - u) % 18446744073709551616
 omega
def dig (n i : Nat) : Nat := n / BB ^ i % BB
theorem BB_pos (i : Nat) : 0 < BB ^ i := Nat.pow_pos (by decide)
theorem dig_lt (n i : Nat) : dig n i < BB := Nat.mod_lt _ (by decide)
theorem mod_succ (n i : Nat) : n % BB ^ (i + 1) = n % BB ^ i + BB ^ i * dig n i := Nat.mod_pow_succ
def carry (a b j : Nat) : Nat := (a % BB ^ j + b % BB ^ j) / BB ^ j
theorem carry_zero (a b : Nat) : carry a b 0 = 0 := by simp [carry, Nat.mod_one]
theorem carry_le (a b j : Nat) : carry a b j ≤ 1 := by
 have h1 := Nat.mod_lt a (BB_pos j)
 have h2 := Nat.mod_lt b (BB_pos j)
 unfold carry
 have : (a % BB ^ j + b % BB ^ j) / BB ^ j < 2 := Nat.div_lt_of_lt_mul (by omega)
 omega
theorem plus_dig (a b j : Nat) : (dig a j + dig b j + carry a b j) % BB = dig (a + b) j := by
 have hp := BB_pos j
 have ha : a = a % BB ^ j + BB ^ j * (a / BB ^ j) := (Nat.mod_add_div a (BB ^ j)).symm
 have hb : b = b % BB ^ j + BB ^ j * (b / BB ^ j) := (Nat.mod_add_div b (BB ^ j)).symm
 have h : (a + b) / BB ^ j = a / BB ^ j + b / BB ^ j + carry a b j := by
  have e : a + b = (a % BB ^ j + b % BB ^ j) + BB ^ j * (a / BB ^ j + b / BB ^ j) := by rw [Nat.mul_add]; omega
  rw [e, Nat.add_mul_div_left _ _ hp, carry]
  omega
 simp only [dig]
 rw [h]
 exact mod3 _ _ _
theorem plus_carry (a b j : Nat) : (dig a j + dig b j + carry a b j) / BB = carry a b (j + 1) := by
 have hp := BB_pos j
 unfold carry
 rw [mod_succ a j, mod_succ b j]
 have e : a % BB ^ j + BB ^ j * dig a j + (b % BB ^ j + BB ^ j * dig b j) = (a % BB ^ j + b % BB ^ j) + BB ^ j * (dig a j + dig b j) := by rw [Nat.mul_add]; omega
 rw [e, Nat.pow_succ, ← Nat.div_div_eq_div_mul, Nat.add_mul_div_left _ _ hp]
 congr 1
 omega
def under (a b j : Nat) : Nat := if a % BB ^ j < b % BB ^ j then 1 else 0
theorem under_zero (a b : Nat) : under a b 0 = 0 := by simp [under, Nat.mod_one]
theorem under_le (a b j : Nat) : under a b j ≤ 1 := by unfold under; split <;> omega
theorem minus_under (a b j : Nat) : (if dig a j < dig b j + under a b j then 1 else 0) = under a b (j + 1) := by
 have hp := BB_pos j
 have h1 := Nat.mod_lt a hp
 have h2 := Nat.mod_lt b hp
 unfold under
 rw [mod_succ a j, mod_succ b j]
 generalize a % BB ^ j = x at *
 generalize b % BB ^ j = y at *
 generalize dig a j = s
 generalize dig b j = t
 generalize BB ^ j = p at *
 rcases Nat.lt_trichotomy s t with h | h | h
 ·have : p * s + p ≤ p * t := by
   have := Nat.mul_le_mul_left p (show s + 1 ≤ t by omega)
   rw [Nat.mul_add] at this; omega
  rw [if_pos (by split <;> omega), if_pos (by omega)]
 ·subst h
  by_cases hxy : x < y
  ·simp [hxy]
  ·simp [hxy]
 ·have : p * t + p ≤ p * s := by
   have := Nat.mul_le_mul_left p (show t + 1 ≤ s by omega)
   rw [Nat.mul_add] at this; omega
  rw [if_neg (by split <;> omega), if_neg (by omega)]
def sub256 (a b : Nat) : Nat := (a + BB ^ 4 - b) % BB ^ 4
theorem minus_dig (a b j : Nat) (hj : j < 4) (hb : b < BB ^ 4) : (dig a j + BB - dig b j - under a b j) % BB = dig (sub256 a b) j := by
 have hp := BB_pos j
 have hu := under_le a b j
 have hdb := dig_lt b j
 have hda := dig_lt a j
 have e1 : dig (sub256 a b) j = dig (a + BB ^ 4 - b) j := by
  unfold sub256 dig
  have hsplit : BB ^ 4 = BB ^ j * (BB * BB ^ (3 - j)) := by
   rw [← Nat.pow_succ', ← Nat.pow_add]; congr 1; omega
  rw [hsplit, Nat.mod_mul_right_div_self, Nat.mod_mul_right_mod]
 rw [e1]
 have h4 : BB ^ 4 = BB ^ j * (BB * BB ^ (3 - j)) := by
  rw [← Nat.pow_succ', ← Nat.pow_add]; congr 1; omega
 have ha : a = a % BB ^ j + BB ^ j * (a / BB ^ j) := (Nat.mod_add_div a (BB ^ j)).symm
 have hb' : b = b % BB ^ j + BB ^ j * (b / BB ^ j) := (Nat.mod_add_div b (BB ^ j)).symm
 have hbq : b / BB ^ j < BB * BB ^ (3 - j) := Nat.div_lt_of_lt_mul (by rw [← h4]; exact hb)
 have hx := Nat.mod_lt a hp
 have hy := Nat.mod_lt b hp
 unfold dig under
 unfold dig at hdb hda
 have key : (a + BB ^ 4 - b) / BB ^ j = a / BB ^ j + BB * BB ^ (3 - j) - b / BB ^ j - (if a % BB ^ j < b % BB ^ j then 1 else 0) := by
  rw [h4]
  generalize BB * BB ^ (3 - j) = K at *
  generalize hqa : a / BB ^ j = qa at *
  generalize hqb : b / BB ^ j = qb at *
  generalize a % BB ^ j = x at *
  generalize b % BB ^ j = y at *
  generalize BB ^ j = p at *
  by_cases hxy : x < y
  ·rw [if_pos hxy]
   have e : a + p * K - b = (x + p - y) + p * (qa + K - qb - 1) := by
    have : p * (qa + K - qb - 1) + p * (qb + 1) = p * (qa + K) := by rw [← Nat.mul_add]; congr 1; omega
    have h2 : p * (qb + 1) = p * qb + p := by rw [Nat.mul_add, Nat.mul_one]
    have h3 : p * (qa + K) = p * qa + p * K := Nat.mul_add _ _ _
    omega
   rw [e, Nat.add_mul_div_left _ _ hp, Nat.div_eq_of_lt (by omega)]
   omega
  ·rw [if_neg hxy]
   have e : a + p * K - b = (x - y) + p * (qa + K - qb) := by
    have : p * (qa + K - qb) + p * qb = p * (qa + K) := by rw [← Nat.mul_add]; congr 1; omega
    have h3 : p * (qa + K) = p * qa + p * K := Nat.mul_add _ _ _
    omega
   rw [e, Nat.add_mul_div_left _ _ hp, Nat.div_eq_of_lt (by omega)]
   omega
 rw [key]
 generalize a / BB ^ j = qa at *
 generalize b / BB ^ j = qb at *
 generalize BB ^ (3 - j) = K at *
 exact mod3u _ _ _ _ (by split <;> omega) hbq
theorem sub256_ok (a b : Nat) (ha : a < BB ^ 4) (h : b ≤ a) : sub256 a b = a - b := by
 unfold sub256
 rw [show a + BB ^ 4 - b = (a - b) + BB ^ 4 by omega, Nat.add_mod_right, Nat.mod_eq_of_lt (by omega)]
theorem sub256_under (a b : Nat) (hb : b < BB ^ 4) (h : a < b) : sub256 a b = a + BB ^ 4 - b := by
 unfold sub256
 rw [Nat.mod_eq_of_lt (by omega)]
theorem under_four (a b : Nat) (ha : a < BB ^ 4) (hb : b < BB ^ 4) : under a b 4 = if a < b then 1 else 0 := by
 unfold under
 rw [Nat.mod_eq_of_lt ha, Nat.mod_eq_of_lt hb]
def lim (n : Nat) : List Int := [(dig n 0 : Int), (dig n 1 : Int), (dig n 2 : Int), (dig n 3 : Int)]
def limTo (n j : Nat) : List Int := (List.range 4).map fun i => if i < j then (dig n i : Int) else 0
theorem limTo_set (n j : Nat) (hj : j < 4) : (limTo n j).set j (dig n j : Int) = limTo n (j + 1) := by
 match j, hj with
 | 0, _ => rfl
 | 1, _ => rfl
 | 2, _ => rfl
 | 3, _ => rfl
theorem lim_at (n j : Nat) (hj : j < 4) : (lim n)[j]? = some (dig n j : Int) := by
 match j, hj with
 | 0, _ => rfl
 | 1, _ => rfl
 | 2, _ => rfl
 | 3, _ => rfl
theorem lim_mod (n : Nat) : lim (n % BB ^ 4) = lim n := by
 have h : ∀ j, j < 4 → dig (n % BB ^ 4) j = dig n j := by
  intro j hj
  unfold dig
  have hsplit : BB ^ 4 = BB ^ j * (BB * BB ^ (3 - j)) := by
   rw [← Nat.pow_succ', ← Nat.pow_add]; congr 1; omega
  rw [hsplit, Nat.mod_mul_right_div_self, Nat.mod_mul_right_mod]
 simp only [lim, h 0 (by omega), h 1 (by omega), h 2 (by omega), h 3 (by omega)]
theorem dig_wrap (n j : Nat) (hj : j < 4) : dig (n + BB ^ 4) j = dig n j := by
 have h : ∀ n, dig (n % BB ^ 4) j = dig n j := by
  intro n
  unfold dig
  have hsplit : BB ^ 4 = BB ^ j * (BB * BB ^ (3 - j)) := by
   rw [← Nat.pow_succ', ← Nat.pow_add]; congr 1; omega
  rw [hsplit, Nat.mod_mul_right_div_self, Nat.mod_mul_right_mod]
 rw [← h, Nat.add_mod_right, h]
end Go.Proofs.Ytjmeakfjfpnciaa
namespace Go.Proofs
open Go.Shelf
def Try.lays170_ren : Go.Shelf.Ren := ⟨fun | 170 => 152 | n => n, fun | 70 => 154 | 3 => 3 | 0 => 0 | 72 => 157 | 37 => 155 | 5 => 5 | n => n, fun | n => n⟩
theorem Try.lays170 : Go.Proofs.Lays.n170 Try.prog Try.lays170_ren := {
 mixed := by kernel_rfl
 f170 := Try.func152.trans (congrArg some (by kernel_rfl))
 t0 := Try.underlying0
 a0 := Try.isAgg0
 z0 := Try.sizeOf0
 v0 := Try.zeroValue0
 t3 := Try.underlying3
 a3 := Try.isAgg3
 z3 := Try.sizeOf3
 v3 := Try.zeroValue3
 t37 := Try.underlying155
 a37 := Try.isAgg155
 z37 := Try.sizeOf155
 v37 := Try.zeroValue155
 t70 := Try.underlying154
 a70 := Try.isAgg154
 z70 := Try.sizeOf154
 v70 := Try.zeroValue154
 t72 := Try.underlying157
 a72 := Try.isAgg157
 z72 := Try.sizeOf157
 v72 := Try.zeroValue157 }
open Go.RowKit in
theorem Try.Builder_Len (B b : Nat) (bs : List Value) (w : World) (h : Lib.IsBuilder 157 5 B b bs w) :
  Calls Try.prog 152 #[.pointer (some ⟨b, 0, none⟩)] w fun e w' => e = .returned (.int .i64 bs.length) ∧ w' = w := Any.Builder_Len Try.lays170 B b bs w h
def Try.lays169_ren : Go.Shelf.Ren := ⟨fun | 169 => 93 | n => n, fun | 70 => 154 | 9 => 9 | 0 => 0 | 72 => 157 | 37 => 155 | 127 => 213 | 3 => 3 | 5 => 5 | n => n, fun | n => n⟩
theorem Try.lays169 : Go.Proofs.Lays.n169 Try.prog Try.lays169_ren := {
 mixed := by kernel_rfl
 f169 := Try.func93.trans (congrArg some (by kernel_rfl))
 t0 := Try.underlying0
 a0 := Try.isAgg0
 z0 := Try.sizeOf0
 v0 := Try.zeroValue0
 t3 := Try.underlying3
 a3 := Try.isAgg3
 z3 := Try.sizeOf3
 v3 := Try.zeroValue3
 t9 := Try.underlying9
 a9 := Try.isAgg9
 z9 := Try.sizeOf9
 v9 := Try.zeroValue9
 t37 := Try.underlying155
 a37 := Try.isAgg155
 z37 := Try.sizeOf155
 v37 := Try.zeroValue155
 t70 := Try.underlying154
 a70 := Try.isAgg154
 z70 := Try.sizeOf154
 v70 := Try.zeroValue154
 t72 := Try.underlying157
 a72 := Try.isAgg157
 z72 := Try.sizeOf157
 v72 := Try.zeroValue157
 t127 := Try.underlying213
 a127 := Try.isAgg213
 z127 := Try.sizeOf213
 v127 := Try.zeroValue213 }
theorem Try.Builder_Extra_169 : Builder.Extra Try.prog Try.lays169_ren := {
 sizeBuilder := by kernel_rfl
 liesBuilder := by kernel_rfl
 t5 := Try.underlying5
 a5 := Try.isAgg5
 z5 := Try.sizeOf5
 v5 := Try.zeroValue5
 infoByte := by kernel_rfl
 cellsByte := by kernel_rfl
 sizeByte := by kernel_rfl
 neB5 := by decide }
open Go.RowKit in
theorem Try.Builder_String_any (B b : Nat) (l : List UInt8) (w : World) (h : Lib.IsBuilder 157 5 B b (Lib.byteCells l) w) (hBw : B ≤ w.heap.size) :
  Calls Try.prog 93 #[.pointer (some ⟨b, 0, none⟩)] w fun e w' => e = .returned (.string ⟨l.toArray⟩) ∧ Below B w w' := Any.Builder_String_any Try.lays169 Try.Builder_Extra_169 B b l w h hBw
def Try.lays264_ren : Go.Shelf.Ren := ⟨fun | 264 => 167 | n => n, fun | 53 => 94 | 46 => 173 | n => n, fun | n => n⟩
theorem Try.lays264 : Go.Proofs.Lays.n264 Try.prog Try.lays264_ren := {
 mixed := by kernel_rfl
 f264 := Try.func167.trans (congrArg some (by kernel_rfl))
 t46 := Try.underlying173
 a46 := Try.isAgg173
 z46 := Try.sizeOf173
 v46 := Try.zeroValue173
 t53 := Try.underlying94
 a53 := Try.isAgg94
 z53 := Try.sizeOf94
 v53 := Try.zeroValue94 }
open Go.RowKit Go.Lib in
theorem Try.bits_Mul64 (x y : Nat) (hx : x < 18446744073709551616) (hy : y < 18446744073709551616) (w : World) :
  Calls Try.prog 167 #[.int .u64 x, .int .u64 y] w fun e w' => e = .returned (.tuple #[.int .u64 ((x * y / 18446744073709551616 : Nat) : Int), .int .u64 ((x * y % 18446744073709551616 : Nat) : Int)]) ∧ w' = w := Any.bits_Mul64 Try.lays264 x y hx hy w
end Go.Proofs
namespace Go.Proofs.Ytjmeakfjfpnciaa
open Go.RowKit
theorem add64 (x y c : Int) (hx : 0 ≤ x) (hy : 0 ≤ y) (hc0 : 0 ≤ c) (hc : c ≤ 1) (w : World) : (callFunc 168 #[.int .u64 x, .int .u64 y, .int .u64 c]).run Try.prog w =
  .ok (.value (.tuple #[.int .u64 ((x + y + c) % 18446744073709551616), .int .u64 ((x + y + c) / 18446744073709551616)])) w := by
 obtain ⟨x, rfl⟩ := Int.eq_ofNat_of_zero_le hx
 obtain ⟨y, rfl⟩ := Int.eq_ofNat_of_zero_le hy
 obtain ⟨c, rfl⟩ := Int.eq_ofNat_of_zero_le hc0
 rw [run_callFunc_extern Try.func168 (by kernel_rfl) (by kernel_rfl) (by kernel_rfl) (e := add64Entry) (by kernel_rfl), run_add64 x y c (by omega) (by omega) (by omega) (by omega)]
 rfl
theorem sub64 (x y b : Nat) (hb : b ≤ 1) (w : World) : (callFunc 170 #[.int .u64 x, .int .u64 y, .int .u64 b]).run Try.prog w =
  .ok (.value (.tuple #[.int .u64 (((x + 18446744073709551616 - y - b) % 18446744073709551616 : Nat) : Int), .int .u64 ((if x < y + b then 1 else 0 : Nat) : Int)])) w := by
 rw [run_callFunc_extern Try.func170 (by kernel_rfl) (by kernel_rfl) (by kernel_rfl) (e := sub64Entry) (by kernel_rfl), run_sub64 x y b hb]
 rfl
def Blk (W : World) (b : Nat) (t : TypeId) (xs : List Int) : Prop := W.heap[b]? = some (.cells (xs.map (Value.int .u64)).toArray t (0, 0))
section
variable {W W' : World} {b c i n : Nat} {t : TypeId} {xs : List Int} {x : Int} {v : Value}
theorem Blk.lt (h : Blk W b t xs) : b < W.heap.size := (Array.getElem?_eq_some_iff.1 h).1
theorem Blk.cell (h : Blk W b t xs) (hx : xs[i]? = some x) : W.cell? ⟨b, i, none⟩ = some (.int .u64 x) := by
 simp [World.cell?, show W.heap[b]? = _ from h, hx]
theorem Blk.frozen (h : Blk W b t xs) (i : Nat) : W.frozen? ⟨b, i, none⟩ = false := by
 simp [World.frozen?, show W.heap[b]? = _ from h]
theorem Blk.below (h : Blk W b t xs) (hb : Below n W W') (hn : b < n) : Blk W' b t xs := (hb.block b hn).trans h
theorem Blk.alloc (h : Blk W b t xs) (o : Obj) : Blk (W.alloc o) b t xs := (Below.heap_alloc W o b h.lt).trans h
theorem Blk.new (W : World) (t : TypeId) (xs : List Int) (cs : Array Value) (hcs : cs = (xs.map (Value.int .u64)).toArray) : Blk (W.alloc (.cells cs t)) W.heap.size t xs := by
 subst hcs; exact heap_alloc_new W _
theorem Blk.set (h : Blk W b t xs) (i : Nat) (x : Int) : Blk (W.setCell ⟨b, i, none⟩ (.int .u64 x)) b t (xs.set i x) := by
 obtain ⟨hlt, hk⟩ := Array.getElem?_eq_some_iff.1 h
 show (W.heap.modify b _)[b]? = _
 rw [Array.getElem?_eq_getElem (by rw [Array.size_modify]; exact hlt), Array.getElem_modify_self, hk]
 simp [List.map_set]
theorem Blk.other (h : Blk W b t xs) (hne : b ≠ c) (i : Nat) (v : Value) : Blk (W.setCell ⟨c, i, none⟩ v) b t xs := (Below.heap_setCell W ⟨c, i, none⟩ v b hne).trans h
end
theorem Blk.z4 {W : World} {b : Nat} {t : TypeId} (h : Blk W b t [0, 0, 0, 0]) : W.cell? ⟨b, 0, none⟩ = some (.int .u64 0) ∧ W.cell? ⟨b, 1, none⟩ = some (.int .u64 0) ∧ W.cell? ⟨b, 2, none⟩ = some (.int .u64 0) ∧ W.cell? ⟨b, 3, none⟩ = some (.int .u64 0) :=
 ⟨h.cell (i := 0) rfl, h.cell (i := 1) rfl, h.cell (i := 2) rfl, h.cell (i := 3) rfl⟩
theorem Blk.l4 {W : World} {b : Nat} {t : TypeId} (n : Nat) (h : Blk W b t (lim n)) : W.cell? ⟨b, 0, none⟩ = some (.int .u64 (dig n 0 : Int)) ∧ W.cell? ⟨b, 1, none⟩ = some (.int .u64 (dig n 1 : Int)) ∧ W.cell? ⟨b, 2, none⟩ = some (.int .u64 (dig n 2 : Int)) ∧ W.cell? ⟨b, 3, none⟩ = some (.int .u64 (dig n 3 : Int)) :=
 ⟨h.cell (i := 0) (x := (dig n 0 : Int)) rfl, h.cell (i := 1) (x := (dig n 1 : Int)) rfl, h.cell (i := 2) (x := (dig n 2 : Int)) rfl, h.cell (i := 3) (x := (dig n 3 : Int)) rfl⟩
theorem boxL (w : World) (t0 : TypeId) (n0 : Nat) : ∃ W, w.alloc (Obj.cells #[.int .u64 (dig n0 0 : Int), .int .u64 (dig n0 1 : Int), .int .u64 (dig n0 2 : Int), .int .u64 (dig n0 3 : Int)] t0) = W ∧ Below w.heap.size w W ∧ Blk W w.heap.size t0 (lim n0) := by
 refine ⟨_, rfl, ((Below.refl _ _).alloc (Nat.le_refl _) _), ?_⟩
 ·have h := (Blk.new w t0 (lim n0) _ rfl)
  exact h
theorem boxZ (w : World) (t0 : TypeId) : ∃ W, w.alloc (Obj.cells #[.int .u64 0, .int .u64 0, .int .u64 0, .int .u64 0] t0) = W ∧ Below w.heap.size w W ∧ Blk W w.heap.size t0 [0, 0, 0, 0] := by
 refine ⟨_, rfl, ((Below.refl _ _).alloc (Nat.le_refl _) _), ?_⟩
 ·have h := (Blk.new w t0 [0, 0, 0, 0] _ rfl)
  exact h
theorem boxLZ (w : World) (t0 : TypeId) (n0 : Nat) (t1 : TypeId) : ∃ W, (w.alloc (Obj.cells #[.int .u64 (dig n0 0 : Int), .int .u64 (dig n0 1 : Int), .int .u64 (dig n0 2 : Int), .int .u64 (dig n0 3 : Int)] t0)).alloc (Obj.cells #[.int .u64 0, .int .u64 0, .int .u64 0, .int .u64 0] t1) = W ∧ Below w.heap.size w W ∧ Blk W w.heap.size t0 (lim n0) ∧ Blk W (w.heap.size + 1) t1 [0, 0, 0, 0] := by
 refine ⟨_, rfl, (((Below.refl _ _).alloc (Nat.le_refl _) _).alloc (by simp) _), ?_, ?_⟩
 ·have h := ((Blk.new w t0 (lim n0) _ rfl).alloc (Obj.cells #[.int .u64 0, .int .u64 0, .int .u64 0, .int .u64 0] t1))
  exact h
 ·have h := (Blk.new (w.alloc (Obj.cells #[.int .u64 (dig n0 0 : Int), .int .u64 (dig n0 1 : Int), .int .u64 (dig n0 2 : Int), .int .u64 (dig n0 3 : Int)] t0)) t1 [0, 0, 0, 0] _ rfl)
  rw [World.size_alloc] at h
  exact h
theorem boxLLZ (w : World) (t0 : TypeId) (n0 : Nat) (t1 : TypeId) (n1 : Nat) (t2 : TypeId) : ∃ W, ((w.alloc (Obj.cells #[.int .u64 (dig n0 0 : Int), .int .u64 (dig n0 1 : Int), .int .u64 (dig n0 2 : Int), .int .u64 (dig n0 3 : Int)] t0)).alloc (Obj.cells #[.int .u64 (dig n1 0 : Int), .int .u64 (dig n1 1 : Int), .int .u64 (dig n1 2 : Int), .int .u64 (dig n1 3 : Int)] t1)).alloc (Obj.cells #[.int .u64 0, .int .u64 0, .int .u64 0, .int .u64 0] t2) = W ∧ Below w.heap.size w W ∧ Blk W w.heap.size t0 (lim n0) ∧ Blk W (w.heap.size + 1) t1 (lim n1) ∧ Blk W (w.heap.size + 2) t2 [0, 0, 0, 0] := by
 refine ⟨_, rfl, ((((Below.refl _ _).alloc (Nat.le_refl _) _).alloc (by simp) _).alloc (by simp; omega) _), ?_, ?_, ?_⟩
 ·have h := (((Blk.new w t0 (lim n0) _ rfl).alloc (Obj.cells #[.int .u64 (dig n1 0 : Int), .int .u64 (dig n1 1 : Int), .int .u64 (dig n1 2 : Int), .int .u64 (dig n1 3 : Int)] t1)).alloc (Obj.cells #[.int .u64 0, .int .u64 0, .int .u64 0, .int .u64 0] t2))
  exact h
 ·have h := ((Blk.new (w.alloc (Obj.cells #[.int .u64 (dig n0 0 : Int), .int .u64 (dig n0 1 : Int), .int .u64 (dig n0 2 : Int), .int .u64 (dig n0 3 : Int)] t0)) t1 (lim n1) _ rfl).alloc (Obj.cells #[.int .u64 0, .int .u64 0, .int .u64 0, .int .u64 0] t2))
  rw [World.size_alloc] at h
  exact h
 ·have h := (Blk.new ((w.alloc (Obj.cells #[.int .u64 (dig n0 0 : Int), .int .u64 (dig n0 1 : Int), .int .u64 (dig n0 2 : Int), .int .u64 (dig n0 3 : Int)] t0)).alloc (Obj.cells #[.int .u64 (dig n1 0 : Int), .int .u64 (dig n1 1 : Int), .int .u64 (dig n1 2 : Int), .int .u64 (dig n1 3 : Int)] t1)) t2 [0, 0, 0, 0] _ rfl)
  rw [World.size_alloc, World.size_alloc] at h
  exact h
def limbV (n : Nat) : Value := .agg #[.int .u64 (dig n 0 : Int), .int .u64 (dig n 1 : Int), .int .u64 (dig n 2 : Int), .int .u64 (dig n 3 : Int)]
theorem grownBy_refl_set (W : World) (b i : Nat) (v : Value) : W.grownBy (W.drew.setCell ⟨b, i, none⟩ v) (some b) :=
 ⟨rfl, rfl, rfl, by show W.heap.size ≤ (W.heap.modify _ _).size; rw [Array.size_modify]; exact Nat.le_refl _, fun k _ hk => Below.heap_setCell W.drew ⟨b, i, none⟩ v k (fun e => hk (by rw [e]))⟩
theorem plus_any (a b : Nat) (w : World) : Calls Try.prog 166 #[limbV a, limbV b] w fun e w' => e = .returned (limbV (a + b)) ∧ Below w.heap.size w w' := by
 unfold limbV
 go_enter Try.func166, Try.ntmps166
 go_wp2_with fail
 generalize hW0 : ((w.alloc (.cells #[.int .u64 (dig a 0 : Int), .int .u64 (dig a 1 : Int), .int .u64 (dig a 2 : Int), .int .u64 (dig a 3 : Int)] 96)).alloc (.cells #[.int .u64 (dig b 0 : Int), .int .u64 (dig b 1 : Int), .int .u64 (dig b 2 : Int), .int .u64 (dig b 3 : Int)] 96)).alloc (.cells #[.int .u64 0, .int .u64 0, .int .u64 0, .int .u64 0] 96) = W0 at *
 have hA : Blk W0 w.heap.size 96 (lim a) := by rw [← hW0]; exact ((Blk.new w _ (lim a) _ rfl).alloc _).alloc _
 have hB : Blk W0 (w.heap.size + 1) 96 (lim b) := by
  rw [← hW0]
  have h := (Blk.new (w.alloc (.cells #[.int .u64 (dig a 0 : Int), .int .u64 (dig a 1 : Int), .int .u64 (dig a 2 : Int), .int .u64 (dig a 3 : Int)] 96)) 96 (lim b) _ rfl).alloc (.cells #[.int .u64 0, .int .u64 0, .int .u64 0, .int .u64 0] 96)
  rwa [World.size_alloc] at h
 have hC : Blk W0 (w.heap.size + 2) 96 (limTo (a + b) 0) := by
  rw [← hW0]
  have h := Blk.new ((w.alloc (.cells #[.int .u64 (dig a 0 : Int), .int .u64 (dig a 1 : Int), .int .u64 (dig a 2 : Int), .int .u64 (dig a 3 : Int)] 96)).alloc (.cells #[.int .u64 (dig b 0 : Int), .int .u64 (dig b 1 : Int), .int .u64 (dig b 2 : Int), .int .u64 (dig b 3 : Int)] 96)) 96 [0, 0, 0, 0] _ rfl
  rw [World.size_alloc, World.size_alloc] at h
  exact h
 have hBW : Below w.heap.size w W0 := by rw [← hW0]; exact (((Below.refl _ _).alloc (Nat.le_refl _) _).alloc (by simp) _).alloc (by simp; omega) _
 clear hW0
 go_loopw [5, 7] (fun c i wr => ∃ j : Nat, j ≤ 4 ∧ i = .int .i64 j ∧ c = .int .u64 (carry a b j : Int) ∧ Blk wr (w.heap.size + 2) 96 (limTo (a + b) j) ∧ Below (w.heap.size + 2) W0 wr) (fun _ i _ => 4 - (intOf i).toNat)
 case atStart => exact ⟨0, Nat.zero_le _, rfl, by simp [carry_zero], hC, Below.refl _ _⟩
 case round =>
  obtain ⟨j, hj, rfl, rfl, hc, hb⟩ := hrel
  by_cases hjl : j < 4
  ·have hxa := (hA.below hb (by omega)).cell (lim_at a j hjl)
   have hxb := (hB.below hb (by omega)).cell (lim_at b j hjl)
   have hlen : j < (limTo (a + b) j).length := by simp [limTo]; omega
   have hxc := hc.cell (List.getElem?_eq_getElem hlen)
   have hfc := hc.frozen j
   have hcall : ∀ W, (callFunc 168 #[.int .u64 (dig a j : Int), .int .u64 (dig b j : Int), .int .u64 (carry a b j : Int)]).run Try.prog W = .ok (.value (.tuple #[.int .u64 (dig (a + b) j : Int), .int .u64 (carry a b (j + 1) : Int)])) W := by
    intro W
    rw [add64 _ _ _ (by omega) (by omega) (by omega) (by have := carry_le a b j; omega), ← plus_dig a b j, ← plus_carry a b j]
    simp [BB]
   have hset := hc.set j (dig (a + b) j : Int)
   rw [limTo_set _ _ hjl] at hset
   have HSET := Lib.hid hset
   have HB := Lib.hid hb
   have hsz := hb.size
   have hsz2 := hC.lt
   clear hset hb hc
   generalize (limTo (a + b) j)[j] = old at hxc
   generalize dig a j = x at *
   generalize dig b j = y at *
   generalize dig (a + b) j = z at *
   generalize carry a b j = c at *
   generalize hc' : carry a b (j + 1) = c' at *
   have HC' := Lib.hid hc'
   clear hc'
   go_wp2_with fail
   refine wp_region_flat (fun w' => ∃ E : But wr (some (w.heap.size + 2)), w' = E.w) [(0, true), (1, true), (2, true), (3, true), (4, true), (5, true), (6, true), (7, true), (8, false), (9, true), (10, true), (11, true), (12, true), (13, false), (14, true)] (by kernel_rfl) (by kernel_rfl) (fun _ _ d _ _ h => by cases d <;> exact h) (but_of (grownBy_drew (grownBy_refl _ _))) ?_
   have hov := fun (E : But wr (some (w.heap.size + 2))) o => E.cell (b := w.heap.size) o (by omega) (by simp)
   have hov2 := fun (E : But wr (some (w.heap.size + 2))) o => E.cell (b := w.heap.size + 1) o (by omega) (by simp)
   repeat (refine flat_q rfl rfl ?_; go_big_quiet_step (fail); refine wpQuiet_nil ?_)
   refine flat_a rfl (fun K hK => ?_)
   go_simp
   refine hK _ _ ⟨but_of (grownBy_drew (grownBy_refl _ _)), ?_⟩
   clear hK K
   repeat (refine flat_q rfl rfl ?_; go_big_quiet_step (fail); refine wpQuiet_nil ?_)
   refine flat_a rfl (fun K hK => ?_)
   go_simp
   refine hK _ _ ⟨but_of (grownBy_refl_set _ _ _ _), ?_⟩
   clear hK K
   refine flat_q rfl rfl ?_
   go_big_quiet_step (fail)
   refine wpQuiet_nil ?_
   refine flat_end ?_
   go_wp2_with fail
   go_roundw
   case rel => exact ⟨j + 1, by omega, by go_num, by rw [HC'.out], HSET.out, by have h := HB.out; exact (h.drew).setCell (by simp) _⟩
   case measure => simp [intOf]; omega
  ·have hj4 : j = 4 := by omega
   subst hj4
   have hx0 := hc.cell (i := 0) (x := (dig (a + b) 0 : Int)) rfl
   have hx1 := hc.cell (i := 1) (x := (dig (a + b) 1 : Int)) rfl
   have hx2 := hc.cell (i := 2) (x := (dig (a + b) 2 : Int)) rfl
   have hx3 := hc.cell (i := 3) (x := (dig (a + b) 3 : Int)) rfl
   have hf0 := hc.frozen 0
   have hf1 := hc.frozen 1
   have hf2 := hc.frozen 2
   have hf3 := hc.frozen 3
   have HB := Lib.hid (hBW.trans (hb.mono (by omega)))
   clear hb hA hB hC hBW
   have hset : Blk ((((wr.setCell ⟨w.heap.size + 1 + 1, 0, none⟩ (.int .u64 (dig (a + b) 0 : Int))).setCell ⟨w.heap.size + 1 + 1, 1, none⟩ (.int .u64 (dig (a + b) 1 : Int))).setCell ⟨w.heap.size + 1 + 1, 2, none⟩ (.int .u64 (dig (a + b) 2 : Int))).setCell ⟨w.heap.size + 1 + 1, 3, none⟩ (.int .u64 (dig (a + b) 3 : Int))) (w.heap.size + 1 + 1) 96 (lim (a + b)) := ((((hc.set 0 _).set 1 _).set 2 _).set 3 _)
   have HB5 : Hid (Below w.heap.size w ((((wr.setCell ⟨w.heap.size + 1 + 1, 0, none⟩ (.int .u64 (dig (a + b) 0 : Int))).setCell ⟨w.heap.size + 1 + 1, 1, none⟩ (.int .u64 (dig (a + b) 1 : Int))).setCell ⟨w.heap.size + 1 + 1, 2, none⟩ (.int .u64 (dig (a + b) 2 : Int))).setCell ⟨w.heap.size + 1 + 1, 3, none⟩ (.int .u64 (dig (a + b) 3 : Int)))) := (((HB.out.setCell (by simp; omega) _).setCell (by simp; omega) _).setCell (by simp; omega) _).setCell (by simp; omega) _
   have HSET := Lib.hid hset
   clear hset hc
   go_wp2_with fail
   generalize (((wr.setCell ⟨w.heap.size + 1 + 1, 0, none⟩ (.int .u64 (dig (a + b) 0 : Int))).setCell ⟨w.heap.size + 1 + 1, 1, none⟩ (.int .u64 (dig (a + b) 1 : Int))).setCell ⟨w.heap.size + 1 + 1, 2, none⟩ (.int .u64 (dig (a + b) 2 : Int))).setCell ⟨w.heap.size + 1 + 1, 3, none⟩ (.int .u64 (dig (a + b) 3 : Int)) = w5 at *
   clear hx0 hx1 hx2 hx3
   have hx0 := HSET.out.cell (i := 0) (x := (dig (a + b) 0 : Int)) rfl
   have hx1 := HSET.out.cell (i := 1) (x := (dig (a + b) 1 : Int)) rfl
   have hx2 := HSET.out.cell (i := 2) (x := (dig (a + b) 2 : Int)) rfl
   have hx3 := HSET.out.cell (i := 3) (x := (dig (a + b) 3 : Int)) rfl
   simp [bodyPost, results, Try.results166, go_sem, hx0, hx1, hx2, hx3]
   exact HB5.out
theorem Blk.fill {W : World} {b : Nat} {t : TypeId} {xs : List Int} (h : Blk W b t xs) (hl : xs.length = 4) (n : Nat) : Blk (((((W).setCell ⟨b, 0, none⟩ (.int .u64 (dig (n) 0 : Int))).setCell ⟨b, 1, none⟩ (.int .u64 (dig (n) 1 : Int))).setCell ⟨b, 2, none⟩ (.int .u64 (dig (n) 2 : Int))).setCell ⟨b, 3, none⟩ (.int .u64 (dig (n) 3 : Int))) b t (lim n) := by
 obtain ⟨x0, x1, x2, x3, rfl⟩ : ∃ x0 x1 x2 x3, xs = [x0, x1, x2, x3] := by
  match xs, hl with
  | [a, b, c, d], _ => exact ⟨a, b, c, d, rfl⟩
 exact (((h.set 0 _).set 1 _).set 2 _).set 3 _
theorem below_fill {w W : World} {m b n : Nat} (h : Below m w W) (hb : m ≤ b) : Below m w (((((W).setCell ⟨b, 0, none⟩ (.int .u64 (dig (n) 0 : Int))).setCell ⟨b, 1, none⟩ (.int .u64 (dig (n) 1 : Int))).setCell ⟨b, 2, none⟩ (.int .u64 (dig (n) 2 : Int))).setCell ⟨b, 3, none⟩ (.int .u64 (dig (n) 3 : Int))) :=
 (((h.setCell (p := ⟨b, 0, none⟩) hb _).setCell (p := ⟨b, 1, none⟩) hb _).setCell (p := ⟨b, 2, none⟩) hb _).setCell (p := ⟨b, 3, none⟩) hb _
theorem fillE {w W : World} {m b : Nat} {t : TypeId} {x0 x1 x2 x3 : Int} (h : Hid (Below m w W)) (hz : Hid (Blk W b t [x0, x1, x2, x3])) (hb : m ≤ b) (n : Nat) : ∃ W', (((((W).setCell ⟨b, 0, none⟩ (.int .u64 (dig (n) 0 : Int))).setCell ⟨b, 1, none⟩ (.int .u64 (dig (n) 1 : Int))).setCell ⟨b, 2, none⟩ (.int .u64 (dig (n) 2 : Int))).setCell ⟨b, 3, none⟩ (.int .u64 (dig (n) 3 : Int))) = W' ∧ Hid (Below m w W') ∧ Hid (Blk W' b t (lim n)) :=
 ⟨_, rfl, Lib.hid (below_fill h.out hb), Lib.hid (hz.out.fill rfl n)⟩
theorem minus_any (a b : Nat) (hb4 : b < BB ^ 4) (w : World) : Calls Try.prog 127 #[limbV a, limbV b] w fun e w' => e = .returned (.tuple #[limbV (sub256 a b), .int .u64 (under a b 4 : Int)]) ∧ Below w.heap.size w w' := by
 have HB4 := Lib.hid hb4
 clear hb4
 unfold limbV
 go_enter Try.func127, Try.ntmps127
 go_wp2_with fail
 generalize hW0 : ((w.alloc (Obj.cells #[.int .u64 (dig (a) 0 : Int), .int .u64 (dig (a) 1 : Int), .int .u64 (dig (a) 2 : Int), .int .u64 (dig (a) 3 : Int)] 96)).alloc (Obj.cells #[.int .u64 (dig (b) 0 : Int), .int .u64 (dig (b) 1 : Int), .int .u64 (dig (b) 2 : Int), .int .u64 (dig (b) 3 : Int)] 96)).alloc (Obj.cells #[.int .u64 0, .int .u64 0, .int .u64 0, .int .u64 0] 96) = W0 at *
 have hA : Blk W0 w.heap.size 96 (lim a) := by rw [← hW0]; exact ((Blk.new w _ (lim a) _ rfl).alloc _).alloc _
 have hB : Blk W0 (w.heap.size + 1) 96 (lim b) := by
  rw [← hW0]
  have h := (Blk.new (w.alloc (Obj.cells #[.int .u64 (dig (a) 0 : Int), .int .u64 (dig (a) 1 : Int), .int .u64 (dig (a) 2 : Int), .int .u64 (dig (a) 3 : Int)] 96)) 96 (lim b) _ rfl).alloc (Obj.cells #[.int .u64 0, .int .u64 0, .int .u64 0, .int .u64 0] 96)
  rwa [World.size_alloc] at h
 have hC : Blk W0 (w.heap.size + 2) 96 (limTo (sub256 a b) 0) := by
  rw [← hW0]
  have h := Blk.new ((w.alloc (Obj.cells #[.int .u64 (dig (a) 0 : Int), .int .u64 (dig (a) 1 : Int), .int .u64 (dig (a) 2 : Int), .int .u64 (dig (a) 3 : Int)] 96)).alloc (Obj.cells #[.int .u64 (dig (b) 0 : Int), .int .u64 (dig (b) 1 : Int), .int .u64 (dig (b) 2 : Int), .int .u64 (dig (b) 3 : Int)] 96)) 96 [0, 0, 0, 0] _ rfl
  rw [World.size_alloc, World.size_alloc] at h
  exact h
 have hBW : Below w.heap.size w W0 := by rw [← hW0]; exact (((Below.refl _ _).alloc (Nat.le_refl _) _).alloc (by simp) _).alloc (by simp; omega) _
 clear hW0
 go_loopw [5, 7] (fun c i wr => ∃ j : Nat, j ≤ 4 ∧ i = .int .i64 j ∧ c = .int .u64 (under a b j : Int) ∧ Blk wr (w.heap.size + 2) 96 (limTo (sub256 a b) j) ∧ Below (w.heap.size + 2) W0 wr) (fun _ i _ => 4 - (intOf i).toNat)
 case atStart => exact ⟨0, Nat.zero_le _, rfl, by simp [under_zero], hC, Below.refl _ _⟩
 case round =>
  obtain ⟨j, hj, rfl, rfl, hc, hb⟩ := hrel
  by_cases hjl : j < 4
  ·have hxa := (hA.below hb (by omega)).cell (lim_at a j hjl)
   have hxb := (hB.below hb (by omega)).cell (lim_at b j hjl)
   have hlen : j < (limTo (sub256 a b) j).length := by simp [limTo]; omega
   have hxc := hc.cell (List.getElem?_eq_getElem hlen)
   have hfc := hc.frozen j
   have hcall : ∀ W, (callFunc 170 #[.int .u64 (dig a j : Int), .int .u64 (dig b j : Int), .int .u64 (under a b j : Int)]).run Try.prog W = .ok (.value (.tuple #[.int .u64 (dig (sub256 a b) j : Int), .int .u64 (under a b (j + 1) : Int)])) W := by
    intro W
    rw [sub64 _ _ _ (under_le a b j), ← minus_dig a b j hjl HB4.out, ← minus_under a b j]
   have hset := hc.set j (dig (sub256 a b) j : Int)
   rw [limTo_set _ _ hjl] at hset
   have HSET := Lib.hid hset
   have HB := Lib.hid hb
   have hsz := hb.size
   have hsz2 := hC.lt
   clear hset hb hc
   generalize (limTo (sub256 a b) j)[j] = old at hxc
   generalize dig a j = x at *
   generalize dig b j = y at *
   generalize dig (sub256 a b) j = z at *
   generalize under a b j = c at *
   generalize hc' : under a b (j + 1) = c' at *
   have HC' := Lib.hid hc'
   clear hc'
   go_wp2_with fail
   refine wp_region_flat (fun w' => ∃ E : But wr (some (w.heap.size + 2)), w' = E.w) [(0, true), (1, true), (2, true), (3, true), (4, true), (5, true), (6, true), (7, true), (8, false), (9, true), (10, true), (11, true), (12, true), (13, false), (14, true)] (by kernel_rfl) (by kernel_rfl) (fun _ _ d _ _ h => by cases d <;> exact h) (but_of (grownBy_drew (grownBy_refl _ _))) ?_
   have hov := fun (E : But wr (some (w.heap.size + 2))) o => E.cell (b := w.heap.size) o (by omega) (by simp)
   have hov2 := fun (E : But wr (some (w.heap.size + 2))) o => E.cell (b := w.heap.size + 1) o (by omega) (by simp)
   repeat (refine flat_q rfl rfl ?_; go_big_quiet_step (fail); refine wpQuiet_nil ?_)
   refine flat_a rfl (fun K hK => ?_)
   go_simp
   refine hK _ _ ⟨but_of (grownBy_drew (grownBy_refl _ _)), ?_⟩
   clear hK K
   repeat (refine flat_q rfl rfl ?_; go_big_quiet_step (fail); refine wpQuiet_nil ?_)
   refine flat_a rfl (fun K hK => ?_)
   go_simp
   refine hK _ _ ⟨but_of (grownBy_refl_set _ _ _ _), ?_⟩
   clear hK K
   refine flat_q rfl rfl ?_
   go_big_quiet_step (fail)
   refine wpQuiet_nil ?_
   refine flat_end ?_
   go_wp2_with fail
   go_roundw
   case rel => exact ⟨j + 1, by omega, by go_num, by rw [HC'.out], HSET.out, by have h := HB.out; exact (h.drew).setCell (by simp) _⟩
   case measure => simp [intOf]; omega
  ·have hj4 : j = 4 := by omega
   subst hj4
   have hx_ := Blk.l4 (sub256 a b) hc
   have hf_ := hc.frozen
   have HB := Lib.hid (below_fill (n := sub256 a b) (b := w.heap.size + 1 + 1) (hBW.trans (hb.mono (by omega))) (by omega))
   have HSET := Lib.hid (hc.fill rfl (sub256 a b))
   clear hb hA hB hC hBW hc
   go_wp2_with fail
   generalize (((((wr).setCell ⟨w.heap.size + 1 + 1, 0, none⟩ (.int .u64 (dig (sub256 a b) 0 : Int))).setCell ⟨w.heap.size + 1 + 1, 1, none⟩ (.int .u64 (dig (sub256 a b) 1 : Int))).setCell ⟨w.heap.size + 1 + 1, 2, none⟩ (.int .u64 (dig (sub256 a b) 2 : Int))).setCell ⟨w.heap.size + 1 + 1, 3, none⟩ (.int .u64 (dig (sub256 a b) 3 : Int))) = w5 at *
   clear hx_
   have hx_ := Blk.l4 (sub256 a b) HSET.out
   simp [bodyPost, results, Try.results127, go_sem, hx_]
   exact HB.out
end Go.Proofs.Ytjmeakfjfpnciaa
namespace Go.Proofs.Ytjmeakfjfpnciaa
open Go.RowKit
structure RingP where
 m : Nat
 one : Nat
 up : Nat
 low : Nat
def RingP.cells (R : RingP) : List Int := lim R.m ++ lim R.one ++ lim R.up ++ [(R.low : Int)]
structure RingAt (W : World) (rb off : Nat) (R : RingP) : Prop where
 lt : rb < W.heap.size
 cell : ∀ i x, R.cells[i]? = some x → W.cell? ⟨rb, off + i, none⟩ = some (.int .u64 x)
theorem RingAt.below {W W' : World} {rb off n : Nat} {R : RingP} (h : RingAt W rb off R) (hb : Below n W W') (hn : rb < n) : RingAt W' rb off R :=
 ⟨Nat.lt_of_lt_of_le h.lt hb.size, fun i x hx => by rw [hb.cell (p := ⟨rb, off + i, none⟩) hn]; exact h.cell i x hx⟩
theorem RingAt.up {W W' : World} {rb off : Nat} {R : RingP} (h : RingAt W rb off R) (hb : Below W.heap.size W W') : RingAt W' rb off R := h.below hb h.lt
theorem once_any (R : RingP) (rb off a r : Nat) (ha : a < BB ^ 4) (hm : R.m < BB ^ 4) (hr : r = if R.m ≤ a then a - R.m else a) (w : World) (hR : RingAt w rb off R) :
  Calls Try.prog 165 #[.pointer (some ⟨rb, off, none⟩), limbV a] w fun e w' => e = .returned (limbV r) ∧ Below w.heap.size w w' := by
 have HA := Lib.hid ha
 have HM := Lib.hid hm
 have HR := Lib.hid hr
 clear ha hm hr
 unfold limbV
 go_enter Try.func165, Try.ntmps165
 go_wp2_with fail
 generalize hW0 : (w.alloc (Obj.cells #[.int .u64 (dig (a) 0 : Int), .int .u64 (dig (a) 1 : Int), .int .u64 (dig (a) 2 : Int), .int .u64 (dig (a) 3 : Int)] 96)).alloc (Obj.cells #[.int .u64 0, .int .u64 0, .int .u64 0, .int .u64 0] 96) = W0 at *
 have hA : Blk W0 w.heap.size 96 (lim a) := by rw [← hW0]; exact (Blk.new w _ (lim a) _ rfl).alloc _
 have hC : Blk W0 (w.heap.size + 1) 96 [0, 0, 0, 0] := by
  rw [← hW0]
  have h := Blk.new (w.alloc (Obj.cells #[.int .u64 (dig (a) 0 : Int), .int .u64 (dig (a) 1 : Int), .int .u64 (dig (a) 2 : Int), .int .u64 (dig (a) 3 : Int)] 96)) 96 [0, 0, 0, 0] _ rfl
  rw [World.size_alloc] at h
  exact h
 have hBW : Below w.heap.size w W0 := by rw [← hW0]; exact ((Below.refl _ _).alloc (Nat.le_refl _) _).alloc (by simp) _
 clear hW0
 have hR0 := hR.up hBW
 have hrl := hR.lt
 have hr0 : W0.cell? ⟨rb, off, none⟩ = some (.int .u64 (dig R.m 0 : Int)) := hR0.cell 0 (dig R.m 0 : Int) rfl
 have hr1 := hR0.cell 1 (dig R.m 1 : Int) rfl
 have hr2 := hR0.cell 2 (dig R.m 2 : Int) rfl
 have hr3 := hR0.cell 3 (dig R.m 3 : Int) rfl
 have hx_ := Blk.l4 (a) hA
 have hsz := hBW.size
 have hlA := hA.lt
 have hrb0 := hR0.lt
 refine wp_region_tree (fun w' => ∃ E : Over W0, w' = E.w) (.qs [0, 1, 2, 3, 4] (.two 5 (.qs [6, 7, 8] (.a 9 (.a 10 (.q 11 .done)))) 9 (.a 5 (.qs [6, 7, 8] (.a 10 (.q 11 .done)))))) (by kernel_rfl) (by kernel_rfl) (fun _ _ d _ _ h => by cases d <;> exact h) ?_ ?_
 ·exact ⟨⟨_, (Below.refl _ _).drew⟩, rfl⟩
 have hov := fun (E : Over W0) o => E.cell (b := w.heap.size) o (by omega)
 have hov2 := fun (E : Over W0) o => E.cell (b := rb) o (by omega)
 simp only [Tree.qs]
 repeat (refine tree_q rfl rfl ?_; go_big_quiet_step (fail); refine wpQuiet_nil ?_)
 refine tree_two rfl rfl ?call ?alloc
 case call =>
  intro K hK
  go_simp
  refine (minus_any a R.m HM.out _).mono ?_
  rintro e w2 ⟨rfl, hb2⟩
  unfold limbV
  have hb2' : Below W0.heap.size W0 w2 := (Below.refl _ _).drew.trans hb2
  have HB2 := Lib.hid hb2'
  refine hK _ _ ⟨⟨⟨w2, hb2'⟩, rfl⟩, ?_⟩
  clear hK K hb2 hb2'
  repeat (refine tree_q rfl rfl ?_; go_big_quiet_step (fail); refine wpQuiet_nil ?_)
  refine tree_a rfl (fun K hK => ?_)
  go_simp
  refine hK _ _ ⟨⟨⟨_, HB2.out.alloc HB2.out.size _⟩, rfl⟩, ?_⟩
  clear hK K
  refine tree_a rfl (fun K hK => ?_)
  go_simp
  refine hK _ _ ⟨⟨⟨_, HB2.out.alloc HB2.out.size _⟩, rfl⟩, ?_⟩
  clear hK K
  refine tree_q rfl rfl ?_
  go_big_quiet_step (fail)
  refine wpQuiet_nil ?_
  refine tree_end ?_
  have h4 := HB2.out.alloc HB2.out.size (Obj.cells #[.int .u64 (dig (sub256 a R.m) 0 : Int), .int .u64 (dig (sub256 a R.m) 1 : Int), .int .u64 (dig (sub256 a R.m) 2 : Int), .int .u64 (dig (sub256 a R.m) 3 : Int)] 96)
  have HD : Hid (Blk (w2.alloc (Obj.cells #[.int .u64 (dig (sub256 a R.m) 0 : Int), .int .u64 (dig (sub256 a R.m) 1 : Int), .int .u64 (dig (sub256 a R.m) 2 : Int), .int .u64 (dig (sub256 a R.m) 3 : Int)] 96)) w2.heap.size 96 (lim (sub256 a R.m))) := Blk.new w2 _ (lim (sub256 a R.m)) _ rfl
  have HAA := Lib.hid (hA.below h4 hlA)
  have HZ := Lib.hid (hC.below h4 hC.lt)
  have HBB := Lib.hid (below_up hBW h4)
  clear h4 hov hov2 hA hC hBW hr0 hr1 hr2 hr3 hx_ hR0 hR
  generalize w2.alloc (Obj.cells #[.int .u64 (dig (sub256 a R.m) 0 : Int), .int .u64 (dig (sub256 a R.m) 1 : Int), .int .u64 (dig (sub256 a R.m) 2 : Int), .int .u64 (dig (sub256 a R.m) 3 : Int)] 96) = w4 at *
  by_cases hma : R.m ≤ a
  ·have hu : ((under a R.m 4 : Nat) : Int) = 0 := by rw [under_four _ _ HA.out HM.out, if_neg (by omega)]; rfl
   have HRR : Hid (r = sub256 a R.m) := by show _ = _; rw [HR.out, if_pos hma, sub256_ok _ _ HA.out hma]
   have HB5 := Lib.hid (below_fill (n := sub256 a R.m) (b := w.heap.size + 1) HBB.out (by omega))
   have HS5 := Lib.hid (HZ.out.fill rfl (sub256 a R.m))
   have hd_ := Blk.l4 (sub256 a R.m) HD.out
   have hz_ := Blk.z4 HZ.out
   have hf_ := HZ.out.frozen
   generalize sub256 a R.m = d at *
   clear hma
   go_wp2_with fail
   generalize (((((w4).setCell ⟨w.heap.size + 1, 0, none⟩ (.int .u64 (dig (d) 0 : Int))).setCell ⟨w.heap.size + 1, 1, none⟩ (.int .u64 (dig (d) 1 : Int))).setCell ⟨w.heap.size + 1, 2, none⟩ (.int .u64 (dig (d) 2 : Int))).setCell ⟨w.heap.size + 1, 3, none⟩ (.int .u64 (dig (d) 3 : Int))) = w5 at *
   clear hz_
   have hg_ := Blk.l4 (d) HS5.out
   simp [bodyPost, results, Try.results165, go_sem, hg_, HRR.out]
   exact HB5.out
  ·have hu : ((under a R.m 4 : Nat) : Int) = 1 := by rw [under_four _ _ HA.out HM.out, if_pos (by omega)]; rfl
   have HRR : Hid (r = a) := by show _ = _; rw [HR.out, if_neg hma]
   have HB5 := Lib.hid (below_fill (n := a) (b := w.heap.size + 1) HBB.out (by omega))
   have HS5 := Lib.hid (HZ.out.fill rfl a)
   have hd_ := Blk.l4 (a) HAA.out
   have hz_ := Blk.z4 HZ.out
   have hf_ := HZ.out.frozen
   clear hma
   go_wp2_with fail
   generalize (((((w4).setCell ⟨w.heap.size + 1, 0, none⟩ (.int .u64 (dig (a) 0 : Int))).setCell ⟨w.heap.size + 1, 1, none⟩ (.int .u64 (dig (a) 1 : Int))).setCell ⟨w.heap.size + 1, 2, none⟩ (.int .u64 (dig (a) 2 : Int))).setCell ⟨w.heap.size + 1, 3, none⟩ (.int .u64 (dig (a) 3 : Int))) = w5 at *
   clear hz_
   have hg_ := Blk.l4 (a) HS5.out
   simp [bodyPost, results, Try.results165, go_sem, hg_, HRR.out]
   exact HB5.out
 case alloc =>
  intro K hK
  go_simp
  have hal : Below W0.heap.size W0 (W0.alloc (Obj.cells #[.int .u64 0, .int .u64 0, .int .u64 0, .int .u64 0] 96)).drew := ((Below.refl _ _).alloc (Nat.le_refl _) _).drew
  have hnew : Blk (W0.alloc (Obj.cells #[.int .u64 0, .int .u64 0, .int .u64 0, .int .u64 0] 96)).drew W0.heap.size 96 [0, 0, 0, 0] := Blk.new W0 _ [0, 0, 0, 0] _ rfl
  refine hK _ _ ⟨⟨⟨_, hal⟩, rfl⟩, ?_⟩
  clear hK K
  refine tree_a rfl (fun K hK => ?_)
  go_simp
  refine (minus_any a R.m HM.out _).mono ?_
  rintro e w2 ⟨rfl, hb2⟩
  unfold limbV
  have hb2' : Below W0.heap.size W0 w2 := below_up hal hb2
  have hn2 : Blk w2 W0.heap.size 96 [0, 0, 0, 0] := hnew.below hb2 hnew.lt
  have HB2 := Lib.hid hb2'
  have HN2 := Lib.hid hn2
  refine hK _ _ ⟨⟨⟨w2, hb2'⟩, rfl⟩, ?_⟩
  clear hK K hb2 hb2' hal hnew hn2
  repeat (refine tree_q rfl rfl ?_; go_big_quiet_step (fail); refine wpQuiet_nil ?_)
  refine tree_a rfl (fun K hK => ?_)
  have hy_ := Blk.z4 HN2.out
  have hyf_ := HN2.out.frozen
  go_simp
  have h4 : Below W0.heap.size W0 (((((w2).setCell ⟨W0.heap.size, 0, none⟩ (.int .u64 (dig (sub256 a R.m) 0 : Int))).setCell ⟨W0.heap.size, 1, none⟩ (.int .u64 (dig (sub256 a R.m) 1 : Int))).setCell ⟨W0.heap.size, 2, none⟩ (.int .u64 (dig (sub256 a R.m) 2 : Int))).setCell ⟨W0.heap.size, 3, none⟩ (.int .u64 (dig (sub256 a R.m) 3 : Int))) := below_fill HB2.out (Nat.le_refl _)
  refine hK _ _ ⟨⟨⟨_, h4⟩, rfl⟩, ?_⟩
  clear hK K
  refine tree_q rfl rfl ?_
  go_big_quiet_step (fail)
  refine wpQuiet_nil ?_
  refine tree_end ?_
  have HD : Hid (Blk (((((w2).setCell ⟨W0.heap.size, 0, none⟩ (.int .u64 (dig (sub256 a R.m) 0 : Int))).setCell ⟨W0.heap.size, 1, none⟩ (.int .u64 (dig (sub256 a R.m) 1 : Int))).setCell ⟨W0.heap.size, 2, none⟩ (.int .u64 (dig (sub256 a R.m) 2 : Int))).setCell ⟨W0.heap.size, 3, none⟩ (.int .u64 (dig (sub256 a R.m) 3 : Int))) W0.heap.size 96 (lim (sub256 a R.m))) := HN2.out.fill rfl _
  have HAA := Lib.hid (hA.below h4 hlA)
  have HZ := Lib.hid (hC.below h4 hC.lt)
  have HBB := Lib.hid (below_up hBW h4)
  clear h4 hov hov2 hA hC hBW hr0 hr1 hr2 hr3 hx_ hR0 hR hy_ hyf_
  generalize (((((w2).setCell ⟨W0.heap.size, 0, none⟩ (.int .u64 (dig (sub256 a R.m) 0 : Int))).setCell ⟨W0.heap.size, 1, none⟩ (.int .u64 (dig (sub256 a R.m) 1 : Int))).setCell ⟨W0.heap.size, 2, none⟩ (.int .u64 (dig (sub256 a R.m) 2 : Int))).setCell ⟨W0.heap.size, 3, none⟩ (.int .u64 (dig (sub256 a R.m) 3 : Int))) = w4 at *
  by_cases hma : R.m ≤ a
  ·have hu : ((under a R.m 4 : Nat) : Int) = 0 := by rw [under_four _ _ HA.out HM.out, if_neg (by omega)]; rfl
   have HRR : Hid (r = sub256 a R.m) := by show _ = _; rw [HR.out, if_pos hma, sub256_ok _ _ HA.out hma]
   have HB5 := Lib.hid (below_fill (n := sub256 a R.m) (b := w.heap.size + 1) HBB.out (by omega))
   have HS5 := Lib.hid (HZ.out.fill rfl (sub256 a R.m))
   have hd_ := Blk.l4 (sub256 a R.m) HD.out
   have hz_ := Blk.z4 HZ.out
   have hf_ := HZ.out.frozen
   generalize sub256 a R.m = d at *
   clear hma
   go_wp2_with fail
   generalize (((((w4).setCell ⟨w.heap.size + 1, 0, none⟩ (.int .u64 (dig (d) 0 : Int))).setCell ⟨w.heap.size + 1, 1, none⟩ (.int .u64 (dig (d) 1 : Int))).setCell ⟨w.heap.size + 1, 2, none⟩ (.int .u64 (dig (d) 2 : Int))).setCell ⟨w.heap.size + 1, 3, none⟩ (.int .u64 (dig (d) 3 : Int))) = w5 at *
   clear hz_
   have hg_ := Blk.l4 (d) HS5.out
   simp [bodyPost, results, Try.results165, go_sem, hg_, HRR.out]
   exact HB5.out
  ·have hu : ((under a R.m 4 : Nat) : Int) = 1 := by rw [under_four _ _ HA.out HM.out, if_pos (by omega)]; rfl
   have HRR : Hid (r = a) := by show _ = _; rw [HR.out, if_neg hma]
   have HB5 := Lib.hid (below_fill (n := a) (b := w.heap.size + 1) HBB.out (by omega))
   have HS5 := Lib.hid (HZ.out.fill rfl a)
   have hd_ := Blk.l4 (a) HAA.out
   have hz_ := Blk.z4 HZ.out
   have hf_ := HZ.out.frozen
   clear hma
   go_wp2_with fail
   generalize (((((w4).setCell ⟨w.heap.size + 1, 0, none⟩ (.int .u64 (dig (a) 0 : Int))).setCell ⟨w.heap.size + 1, 1, none⟩ (.int .u64 (dig (a) 1 : Int))).setCell ⟨w.heap.size + 1, 2, none⟩ (.int .u64 (dig (a) 2 : Int))).setCell ⟨w.heap.size + 1, 3, none⟩ (.int .u64 (dig (a) 3 : Int))) = w5 at *
   clear hz_
   have hg_ := Blk.l4 (a) HS5.out
   simp [bodyPost, results, Try.results165, go_sem, hg_, HRR.out]
   exact HB5.out
end Go.Proofs.Ytjmeakfjfpnciaa
namespace Go.Proofs.Ytjmeakfjfpnciaa
open Go.RowKit
theorem grownBy_put {W w : World} {b i : Nat} {v : Value} (h : W.grownBy w (some b)) : W.grownBy (w.setCell ⟨b, i, none⟩ v) (some b) :=
 ⟨h.os, h.tape, h.output, by have := h.size; show W.heap.size ≤ (w.heap.modify _ _).size; rw [Array.size_modify]; exact this, fun k hk hr => by rw [Below.heap_setCell w ⟨b, i, none⟩ v k (fun e => hr (by rw [e]))]; exact h.block k hk hr⟩
theorem grownBy_fill {W w : World} {b n : Nat} (h : W.grownBy w (some b)) : W.grownBy (((((w).setCell ⟨b, 0, none⟩ (.int .u64 (dig (n) 0 : Int))).setCell ⟨b, 1, none⟩ (.int .u64 (dig (n) 1 : Int))).setCell ⟨b, 2, none⟩ (.int .u64 (dig (n) 2 : Int))).setCell ⟨b, 3, none⟩ (.int .u64 (dig (n) 3 : Int))) (some b) := grownBy_put (grownBy_put (grownBy_put (grownBy_put h)))
theorem ringAdd_any (R : RingP) (rb off a b r : Nat) (hab : a + b < BB ^ 4) (hm : R.m < BB ^ 4) (hr : r = if R.m ≤ a + b then a + b - R.m else a + b) (w : World) (hR : RingAt w rb off R) :
  Calls Try.prog 114 #[.pointer (some ⟨rb, off, none⟩), limbV a, limbV b] w fun e w' => e = .returned (limbV r) ∧ Below w.heap.size w w' := by
 have HAB := Lib.hid hab
 have HM := Lib.hid hm
 have HR := Lib.hid hr
 clear hab hm hr
 unfold limbV
 go_enter Try.func114, Try.ntmps114
 go_wp2_with fail
 generalize hW0 : ((w.alloc (Obj.cells #[.int .u64 (dig (a) 0 : Int), .int .u64 (dig (a) 1 : Int), .int .u64 (dig (a) 2 : Int), .int .u64 (dig (a) 3 : Int)] 96)).alloc (Obj.cells #[.int .u64 (dig (b) 0 : Int), .int .u64 (dig (b) 1 : Int), .int .u64 (dig (b) 2 : Int), .int .u64 (dig (b) 3 : Int)] 96)).alloc (Obj.cells #[.int .u64 0, .int .u64 0, .int .u64 0, .int .u64 0] 96) = W0 at *
 have hA : Blk W0 w.heap.size 96 (lim a) := by rw [← hW0]; exact ((Blk.new w _ (lim a) _ rfl).alloc _).alloc _
 have hB : Blk W0 (w.heap.size + 1) 96 (lim b) := by
  rw [← hW0]
  have h := (Blk.new (w.alloc (Obj.cells #[.int .u64 (dig (a) 0 : Int), .int .u64 (dig (a) 1 : Int), .int .u64 (dig (a) 2 : Int), .int .u64 (dig (a) 3 : Int)] 96)) 96 (lim b) _ rfl).alloc (Obj.cells #[.int .u64 0, .int .u64 0, .int .u64 0, .int .u64 0] 96)
  rwa [World.size_alloc] at h
 have hC : Blk W0 (w.heap.size + 2) 96 [0, 0, 0, 0] := by
  rw [← hW0]
  have h := Blk.new ((w.alloc (Obj.cells #[.int .u64 (dig (a) 0 : Int), .int .u64 (dig (a) 1 : Int), .int .u64 (dig (a) 2 : Int), .int .u64 (dig (a) 3 : Int)] 96)).alloc (Obj.cells #[.int .u64 (dig (b) 0 : Int), .int .u64 (dig (b) 1 : Int), .int .u64 (dig (b) 2 : Int), .int .u64 (dig (b) 3 : Int)] 96)) 96 [0, 0, 0, 0] _ rfl
  rw [World.size_alloc, World.size_alloc] at h
  exact h
 have hBW : Below w.heap.size w W0 := by rw [← hW0]; exact (((Below.refl _ _).alloc (Nat.le_refl _) _).alloc (by simp) _).alloc (by simp; omega) _
 clear hW0
 have hR0 := hR.up hBW
 have HC := Lib.hid hC
 have HBW := Lib.hid hBW
 have hsz := hBW.size
 clear hA hB hC hBW
 refine (plus_any a b W0).mono ?_
 rintro e w2 ⟨rfl, hb2⟩
 have hR2 := hR0.up hb2
 have HB2 := Lib.hid hb2
 clear hb2
 unfold limbV
 go_wp2_with fail
 refine (once_any R rb off (a + b) r HAB.out HM.out HR.out w2 hR2).mono ?_
 rintro e w3 ⟨rfl, hb3⟩
 unfold limbV
 have hb03 := below_up HB2.out hb3
 have HZ := Lib.hid (HC.out.below hb03 HC.out.lt)
 have HBB := Lib.hid (below_up HBW.out hb03)
 clear hb3 hb03 hR2 hR0 hR
 obtain ⟨w5, hq5, HB5, HS5⟩ := fillE HBB HZ (by omega) (r)
 have hz_ := Blk.z4 HZ.out
 have hzf_ := HZ.out.frozen
 go_wp2_with fail
 clear hz_
 have hg_ := Blk.l4 (r) HS5.out
 simp [bodyPost, results, Try.results114, go_sem, hg_]
 exact HB5.out
theorem ringSub_any (R : RingP) (rb off a b r : Nat) (ha : a < R.m) (hb : b < R.m) (hm : R.m < BB ^ 4) (hr : r = if b ≤ a then a - b else a + R.m - b) (w : World) (hR : RingAt w rb off R) :
  Calls Try.prog 198 #[.pointer (some ⟨rb, off, none⟩), limbV a, limbV b] w fun e w' => e = .returned (limbV r) ∧ Below w.heap.size w w' := by
 have HA := Lib.hid ha
 have HB := Lib.hid hb
 have HM := Lib.hid hm
 have HR := Lib.hid hr
 clear ha hb hm hr
 unfold limbV
 go_enter Try.func198, Try.ntmps198
 go_wp2_with fail
 generalize hW0 : ((w.alloc (Obj.cells #[.int .u64 (dig (a) 0 : Int), .int .u64 (dig (a) 1 : Int), .int .u64 (dig (a) 2 : Int), .int .u64 (dig (a) 3 : Int)] 96)).alloc (Obj.cells #[.int .u64 (dig (b) 0 : Int), .int .u64 (dig (b) 1 : Int), .int .u64 (dig (b) 2 : Int), .int .u64 (dig (b) 3 : Int)] 96)).alloc (Obj.cells #[.int .u64 0, .int .u64 0, .int .u64 0, .int .u64 0] 96) = W0 at *
 have hA : Blk W0 w.heap.size 96 (lim a) := by rw [← hW0]; exact ((Blk.new w _ (lim a) _ rfl).alloc _).alloc _
 have hB : Blk W0 (w.heap.size + 1) 96 (lim b) := by
  rw [← hW0]
  have h := (Blk.new (w.alloc (Obj.cells #[.int .u64 (dig (a) 0 : Int), .int .u64 (dig (a) 1 : Int), .int .u64 (dig (a) 2 : Int), .int .u64 (dig (a) 3 : Int)] 96)) 96 (lim b) _ rfl).alloc (Obj.cells #[.int .u64 0, .int .u64 0, .int .u64 0, .int .u64 0] 96)
  rwa [World.size_alloc] at h
 have hC : Blk W0 (w.heap.size + 2) 96 [0, 0, 0, 0] := by
  rw [← hW0]
  have h := Blk.new ((w.alloc (Obj.cells #[.int .u64 (dig (a) 0 : Int), .int .u64 (dig (a) 1 : Int), .int .u64 (dig (a) 2 : Int), .int .u64 (dig (a) 3 : Int)] 96)).alloc (Obj.cells #[.int .u64 (dig (b) 0 : Int), .int .u64 (dig (b) 1 : Int), .int .u64 (dig (b) 2 : Int), .int .u64 (dig (b) 3 : Int)] 96)) 96 [0, 0, 0, 0] _ rfl
  rw [World.size_alloc, World.size_alloc] at h
  exact h
 have hBW : Below w.heap.size w W0 := by rw [← hW0]; exact (((Below.refl _ _).alloc (Nat.le_refl _) _).alloc (by simp) _).alloc (by simp; omega) _
 clear hW0
 have hR0 := hR.up hBW
 have hrl := hR.lt
 have HC := Lib.hid hC
 have HBW := Lib.hid hBW
 have hsz := hBW.size
 clear hA hB hC hBW
 refine (minus_any a b (Nat.lt_trans HB.out HM.out) W0).mono ?_
 rintro e w2 ⟨rfl, hb2⟩
 have hR2 := hR0.up hb2
 have HB2 := Lib.hid hb2
 clear hb2
 unfold limbV
 by_cases hba : b ≤ a
 ·have hu : ((under a b 4 : Nat) : Int) = 0 := by rw [under_four _ _ (Nat.lt_trans HA.out HM.out) (Nat.lt_trans HB.out HM.out), if_neg (by omega)]; rfl
  have hrr : sub256 a b = r := by rw [HR.out, if_pos hba, sub256_ok _ _ (Nat.lt_trans HA.out HM.out) hba]
  rw [hrr, hu]
  clear hba hrr hu
  have HZ := Lib.hid ((HC.out.below HB2.out HC.out.lt).alloc (Obj.cells #[.int .u64 (dig (r) 0 : Int), .int .u64 (dig (r) 1 : Int), .int .u64 (dig (r) 2 : Int), .int .u64 (dig (r) 3 : Int)] 96))
  have HBB := Lib.hid ((below_up HBW.out HB2.out).alloc (by have := HB2.out.size; omega) (Obj.cells #[.int .u64 (dig (r) 0 : Int), .int .u64 (dig (r) 1 : Int), .int .u64 (dig (r) 2 : Int), .int .u64 (dig (r) 3 : Int)] 96))
  have HD : Hid (Blk (w2.alloc (Obj.cells #[.int .u64 (dig (r) 0 : Int), .int .u64 (dig (r) 1 : Int), .int .u64 (dig (r) 2 : Int), .int .u64 (dig (r) 3 : Int)] 96)) w2.heap.size 96 (lim r)) := Blk.new w2 _ (lim r) _ rfl
  have hd_ := Blk.l4 (r) HD.out
  clear hR2 hR0 hR
  obtain ⟨w5, hq5, HB5, HS5⟩ := fillE HBB HZ (by omega) (r)
  have hz_ := Blk.z4 HZ.out
  have hzf_ := HZ.out.frozen
  go_wp2_with fail
  clear hz_
  have hg_ := Blk.l4 (r) HS5.out
  simp [bodyPost, results, Try.results198, go_sem, hg_]
  exact HB5.out
 ·have hu : ((under a b 4 : Nat) : Int) = 1 := by rw [under_four _ _ (Nat.lt_trans HA.out HM.out) (Nat.lt_trans HB.out HM.out), if_pos (by omega)]; rfl
  have hsu : sub256 a b = a + BB ^ 4 - b := sub256_under _ _ (Nat.lt_trans HB.out HM.out) (by omega)
  have hrr : sub256 a b + R.m = r + BB ^ 4 := by
   have h1 := HA.out
   have h2 := HB.out
   have h3 := HM.out
   rw [HR.out, if_neg hba, hsu]
   omega
  have HRR := Lib.hid hrr
  rw [hu]
  clear hba hrr hu hsu
  generalize sub256 a b = d at *
  have HZ2 := Lib.hid ((HC.out.below HB2.out HC.out.lt).alloc (Obj.cells #[.int .u64 (dig (d) 0 : Int), .int .u64 (dig (d) 1 : Int), .int .u64 (dig (d) 2 : Int), .int .u64 (dig (d) 3 : Int)] 96))
  have HBB2 := Lib.hid ((below_up HBW.out HB2.out).alloc (by have := HB2.out.size; omega) (Obj.cells #[.int .u64 (dig (d) 0 : Int), .int .u64 (dig (d) 1 : Int), .int .u64 (dig (d) 2 : Int), .int .u64 (dig (d) 3 : Int)] 96))
  have HD : Hid (Blk (w2.alloc (Obj.cells #[.int .u64 (dig (d) 0 : Int), .int .u64 (dig (d) 1 : Int), .int .u64 (dig (d) 2 : Int), .int .u64 (dig (d) 3 : Int)] 96)) w2.heap.size 96 (lim d)) := Blk.new w2 _ (lim d) _ rfl
  have hR3 := hR2.up ((Below.refl _ w2).alloc (Nat.le_refl _) (Obj.cells #[.int .u64 (dig (d) 0 : Int), .int .u64 (dig (d) 1 : Int), .int .u64 (dig (d) 2 : Int), .int .u64 (dig (d) 3 : Int)] 96))
  clear hR2 hR0 hR
  go_wp2_with fail
  generalize hW3 : w2.alloc (Obj.cells #[.int .u64 (dig (d) 0 : Int), .int .u64 (dig (d) 1 : Int), .int .u64 (dig (d) 2 : Int), .int .u64 (dig (d) 3 : Int)] 96) = w3 at *
  have hd_ := Blk.l4 (d) HD.out
  have hr0 : w3.cell? ⟨rb, off, none⟩ = some (.int .u64 (dig R.m 0 : Int)) := hR3.cell 0 (dig R.m 0 : Int) rfl
  have hr1 := hR3.cell 1 (dig R.m 1 : Int) rfl
  have hr2 := hR3.cell 2 (dig R.m 2 : Int) rfl
  have hr3 := hR3.cell 3 (dig R.m 3 : Int) rfl
  have hrb3 := hR3.lt
  have hdl := HD.out.lt
  have hz2 : w.heap.size + 2 < w2.heap.size := by have := HB2.out.size; have := HC.out.lt; omega
  refine wp_region_tree (fun w' => ∃ E : But w3 (some (w.heap.size + 2)), w' = E.w) (.qs [0, 1, 2, 3, 4] (.a 5 (.a 6 .done))) (by kernel_rfl) (by kernel_rfl) (fun _ _ d _ _ h => by cases d <;> exact h) (but_of (grownBy_drew (grownBy_refl _ _))) ?_
  have hov := fun (E : But w3 (some (w.heap.size + 2))) o => E.cell (b := w2.heap.size) o (by omega) (by simp; omega)
  have hov2 := fun (E : But w3 (some (w.heap.size + 2))) o => E.cell (b := rb) o (by omega) (by simp; omega)
  simp only [Tree.qs]
  repeat (refine tree_q rfl rfl ?_; go_big_quiet_step (fail); refine wpQuiet_nil ?_)
  refine tree_a rfl (fun K hK => ?_)
  go_simp
  refine (plus_any d R.m _).mono ?_
  rintro e w4 ⟨rfl, hb4⟩
  have e1 : limbV (d + R.m) = limbV r := by
   rw [HRR.out]
   unfold limbV
   rw [dig_wrap r 0 (by omega), dig_wrap r 1 (by omega), dig_wrap r 2 (by omega), dig_wrap r 3 (by omega)]
  rw [e1]
  unfold limbV
  have hb34 : Below w3.heap.size w3 w4 := (Below.refl _ _).drew.trans hb4
  have HB34 := Lib.hid hb34
  refine hK _ _ ⟨but_of (grownBy_below (grownBy_refl _ _) hb34), ?_⟩
  clear hK K hb4 hb34 e1
  have HZ := Lib.hid (HZ2.out.below HB34.out HZ2.out.lt)
  have HBB := Lib.hid (below_up HBB2.out HB34.out)
  have HB5 := Lib.hid (below_fill (n := r) (b := w.heap.size + 2) HBB.out (by omega))
  have HS5 := Lib.hid (HZ.out.fill rfl r)
  have hz_ := Blk.z4 HZ.out
  have hzf_ := HZ.out.frozen
  refine tree_a rfl (fun K hK => ?_)
  go_simp
  refine hK _ _ ⟨but_of (grownBy_fill (grownBy_below (grownBy_refl _ _) HB34.out)), ?_⟩
  clear hK K
  refine tree_end ?_
  generalize (((((w4).setCell ⟨w.heap.size + 1 + 1, 0, none⟩ (.int .u64 (dig (r) 0 : Int))).setCell ⟨w.heap.size + 1 + 1, 1, none⟩ (.int .u64 (dig (r) 1 : Int))).setCell ⟨w.heap.size + 1 + 1, 2, none⟩ (.int .u64 (dig (r) 2 : Int))).setCell ⟨w.heap.size + 1 + 1, 3, none⟩ (.int .u64 (dig (r) 3 : Int))) = w5 at *
  clear hz_ hov hov2
  go_wp2_with fail
  have hg_ := Blk.l4 (r) HS5.out
  simp [bodyPost, results, Try.results198, go_sem, hg_]
  exact HB5.out
end Go.Proofs.Ytjmeakfjfpnciaa
namespace Go.Proofs.Ytjmeakfjfpnciaa
def mc (x y p j : Nat) : Nat := (x % BB ^ j + p * (y % BB ^ j)) / BB ^ j
theorem mc_zero (x y p : Nat) : mc x y p 0 = 0 := by simp [mc, Nat.mod_one]
theorem mc_le (x y p j : Nat) : mc x y p j ≤ p := by
 have hp := BB_pos j
 have h1 := Nat.mod_lt x hp
 have h2 := Nat.mod_lt y hp
 unfold mc
 have h3 : p * (y % BB ^ j) ≤ p * (BB ^ j - 1) := Nat.mul_le_mul_left _ (by omega)
 have h4 : p * (BB ^ j - 1) + p = p * BB ^ j := by
  rw [← Nat.mul_succ]; congr 1; omega
 have : (x % BB ^ j + p * (y % BB ^ j)) / BB ^ j < p + 1 := Nat.div_lt_of_lt_mul (by rw [Nat.mul_add, Nat.mul_one, Nat.mul_comm (BB ^ j) p]; omega)
 omega
theorem mc_split (x y p j : Nat) : (x + p * y) / BB ^ j = x / BB ^ j + p * (y / BB ^ j) + mc x y p j := by
 have hp := BB_pos j
 have e : x + p * y = (x % BB ^ j + p * (y % BB ^ j)) + BB ^ j * (x / BB ^ j + p * (y / BB ^ j)) := by
  have hx := Nat.mod_add_div x (BB ^ j)
  have hy := Nat.mod_add_div y (BB ^ j)
  have h1 : p * y = p * (y % BB ^ j) + p * (BB ^ j * (y / BB ^ j)) := by rw [← Nat.mul_add, hy]
  have h2 : BB ^ j * (p * (y / BB ^ j)) = p * (BB ^ j * (y / BB ^ j)) := by rw [Nat.mul_left_comm]
  rw [Nat.mul_add, h2]
  omega
 rw [e, Nat.add_mul_div_left _ _ hp, mc]
 omega
theorem mod_mac (u v c p : Nat) : (u % BB + p * (v % BB) + c) % BB = (u + p * v + c) % BB := by
 have h : (p * (v % BB)) % BB = (p * v) % BB := by rw [Nat.mul_mod, Nat.mod_mod, ← Nat.mul_mod]
 have h1 : (u % BB + p * (v % BB)) % BB = (u + p * v) % BB := by rw [Nat.add_mod, Nat.mod_mod, h, ← Nat.add_mod]
 rw [Nat.add_mod, h1, ← Nat.add_mod]
theorem mc_dig (x y p j : Nat) : (dig x j + p * dig y j + mc x y p j) % BB = dig (x + p * y) j := by
 unfold dig
 rw [mc_split, mod_mac]
theorem mc_succ (x y p j : Nat) : (dig x j + p * dig y j + mc x y p j) / BB = mc x y p (j + 1) := by
 have hp := BB_pos j
 conv => rhs; unfold mc
 rw [mod_succ x j, mod_succ y j]
 have e : x % BB ^ j + BB ^ j * dig x j + p * (y % BB ^ j + BB ^ j * dig y j) = (x % BB ^ j + p * (y % BB ^ j)) + BB ^ j * (dig x j + p * dig y j) := by
  rw [Nat.mul_add p, Nat.mul_left_comm p, Nat.mul_add (BB ^ j)]; omega
 rw [e, Nat.pow_succ, ← Nat.div_div_eq_div_mul, Nat.add_mul_div_left _ _ hp]
 congr 1
 unfold mc
 omega
theorem mac_lt (t p y c : Nat) (ht : t < BB) (hp : p < BB) (hy : y < BB) (hc : c < BB) : t + p * y + c < BB * BB := by
 have h1 : p * y ≤ (BB - 1) * (BB - 1) := Nat.mul_le_mul (by omega) (by omega)
 have h2 : (BB - 1) * (BB - 1) + 2 * (BB - 1) + 1 = BB * BB := by decide
 omega
theorem mac_split (t z c : Nat) (h : t + z + c < BB * BB) :
  ((z % BB + t) % BB + c) % BB = (t + z + c) % BB ∧ (z / BB + (z % BB + t) / BB) % BB = z / BB + (z % BB + t) / BB ∧
  (z / BB + (z % BB + t) / BB + ((z % BB + t) % BB + c) / BB) % BB = (t + z + c) / BB := by
 have h' : t + z + c < 18446744073709551616 * 18446744073709551616 := h
 show ((z % 18446744073709551616 + t) % 18446744073709551616 + c) % 18446744073709551616 = (t + z + c) % 18446744073709551616 ∧ (z / 18446744073709551616 + (z % 18446744073709551616 + t) / 18446744073709551616) % 18446744073709551616 = z / 18446744073709551616 + (z % 18446744073709551616 + t) / 18446744073709551616 ∧
  (z / 18446744073709551616 + (z % 18446744073709551616 + t) / 18446744073709551616 + ((z % 18446744073709551616 + t) % 18446744073709551616 + c) / 18446744073709551616) % 18446744073709551616 = (t + z + c) / 18446744073709551616
 refine ⟨?_, ?_, ?_⟩ <;> omega
def montTo (a b m low : Nat) : Nat → Nat
 | 0 => 0
 | i + 1 => (montTo a b m low i + dig a i * b + (dig (montTo a b m low i + dig a i * b) 0 * low % BB) * m) / BB
theorem montTo_lt (a b m low : Nat) (hm : 0 < m) : ∀ i, montTo a b m low i < m + b
 | 0 => by simp [montTo]; omega
 | i + 1 => by
  have ih := montTo_lt a b m low hm i
  have h1 := dig_lt a i
  have h2 : dig (montTo a b m low i + dig a i * b) 0 * low % BB < BB := Nat.mod_lt _ (by decide)
  rw [montTo]
  generalize dig (montTo a b m low i + dig a i * b) 0 * low % BB = q at *
  generalize dig a i = d at *
  generalize montTo a b m low i = z at *
  refine Nat.div_lt_of_lt_mul ?_
  have h3 : d * b ≤ (BB - 1) * b := Nat.mul_le_mul_right _ (by omega)
  have h4 : q * m ≤ (BB - 1) * m := Nat.mul_le_mul_right _ (by omega)
  have h5 : (BB - 1) * b + b = BB * b := by rw [← Nat.succ_mul]; rfl
  have h6 : (BB - 1) * m + m = BB * m := by rw [← Nat.succ_mul]; rfl
  rw [Nat.mul_add]
  omega
theorem montTo_exact (a b m low i : Nat) (hlow : (low * m + 1) % BB = 0) :
  BB * montTo a b m low (i + 1) = montTo a b m low i + dig a i * b + (dig (montTo a b m low i + dig a i * b) 0 * low % BB) * m := by
 rw [montTo]
 generalize montTo a b m low i + dig a i * b = y
 refine Nat.mul_div_cancel' (Nat.dvd_of_mod_eq_zero ?_)
 have e0 : dig y 0 = y % BB := by simp [dig]
 rw [e0]
 have h1 : (y % BB * low % BB * m) % BB = (y * (low * m)) % BB := by
  rw [Nat.mul_mod, Nat.mod_mod, ← Nat.mul_mod, Nat.mul_assoc, Nat.mul_mod, Nat.mod_mod, ← Nat.mul_mod]
 have h2 : (y + y * (low * m)) % BB = 0 := by
  have : y + y * (low * m) = y * (low * m + 1) := by rw [Nat.mul_add, Nat.mul_one]; omega
  rw [this, Nat.mul_mod, hlow, Nat.mul_zero, Nat.zero_mod]
 rw [Nat.add_mod, h1, ← Nat.add_mod, h2]
theorem montTo_mod (a b m low : Nat) (hlow : (low * m + 1) % BB = 0) : ∀ i, (montTo a b m low i * BB ^ i) % m = ((a % BB ^ i) * b) % m
 | 0 => by simp [montTo, Nat.mod_one]
 | i + 1 => by
  have ih := montTo_mod a b m low hlow i
  have hx := montTo_exact a b m low i hlow
  rw [mod_succ, Nat.pow_succ, Nat.mul_comm (BB ^ i) BB, ← Nat.mul_assoc, Nat.mul_comm _ BB, hx]
  generalize dig (montTo a b m low i + dig a i * b) 0 * low % BB = q
  rw [Nat.add_mul, Nat.add_mul, Nat.add_mul]
  have e1 : q * m * BB ^ i = m * (q * BB ^ i) := by rw [Nat.mul_comm q m, Nat.mul_assoc]
  have e2 : dig a i * b * BB ^ i = BB ^ i * dig a i * b := by rw [Nat.mul_comm, ← Nat.mul_assoc]
  rw [e1, Nat.add_mul_mod_self_left, e2, Nat.add_mod, ih, ← Nat.add_mod]
end Go.Proofs.Ytjmeakfjfpnciaa
namespace Go.Proofs.Ytjmeakfjfpnciaa
open Go.RowKit
def lim5 (n : Nat) : List Int := [(dig n 0 : Int), (dig n 1 : Int), (dig n 2 : Int), (dig n 3 : Int), (dig n 4 : Int)]
def mix5 (y t n : Nat) : List Int := (List.range 5).map fun i => if i < n then (dig y i : Int) else (dig t i : Int)
theorem mix5_zero (y t : Nat) : mix5 y t 0 = lim5 t := rfl
theorem mix5_at (y t n : Nat) (hn : n < 5) : (mix5 y t n)[n]? = some (dig t n : Int) := by
 simp [mix5, hn]
theorem mix5_set (y t n : Nat) (hn : n < 5) : (mix5 y t n).set n (dig y n : Int) = mix5 y t (n + 1) := by
 match n, hn with
 | 0, _ => rfl
 | 1, _ => rfl
 | 2, _ => rfl
 | 3, _ => rfl
 | 4, _ => rfl
def mixR (z y n : Nat) : List Int := (List.range 5).map fun i => if i < n then (dig z (i + 1) : Int) else (dig y i : Int)
theorem mixR_zero (z y : Nat) : mixR z y 0 = lim5 y := rfl
theorem mixR_at (z y n : Nat) (hn : n < 4) : (mixR z y n)[n + 1]? = some (dig y (n + 1) : Int) := by
 match n, hn with
 | 0, _ => rfl
 | 1, _ => rfl
 | 2, _ => rfl
 | 3, _ => rfl
theorem mixR_set (z y n : Nat) (hn : n < 5) : (mixR z y n).set n (dig z (n + 1) : Int) = mixR z y (n + 1) := by
 match n, hn with
 | 0, _ => rfl
 | 1, _ => rfl
 | 2, _ => rfl
 | 3, _ => rfl
 | 4, _ => rfl
theorem dig_div (z i : Nat) : dig (z / BB) i = dig z (i + 1) := by
 unfold dig
 rw [Nat.div_div_eq_div_mul, ← Nat.pow_succ']
theorem mixR_five (z y : Nat) : mixR z y 5 = lim5 (z / BB) := by
 simp only [lim5, dig_div]; rfl
theorem dig_five (y m q : Nat) (hy : y < BB ^ 5) (hm : m < BB ^ 4) (hq : q < BB) : dig m 4 = 0 ∧ (dig y 4 + mc y m q 4) / BB = dig (y + q * m) 5 ∧ (dig y 4 + mc y m q 4) % BB = dig (y + q * m) 4 := by
 have h0 : dig m 4 = 0 := by unfold dig; rw [Nat.div_eq_of_lt hm]; rfl
 have h1 := mc_succ y m q 4
 have h2 := mc_dig y m q 4
 rw [h0, Nat.mul_zero, Nat.add_zero] at h1 h2
 refine ⟨h0, ?_, h2⟩
 rw [h1]
 unfold dig
 rw [mc_split, Nat.div_eq_of_lt hy, Nat.div_eq_of_lt (Nat.lt_of_lt_of_le hm (Nat.pow_le_pow_right (by decide) (by omega))), Nat.mul_zero, Nat.add_zero, Nat.zero_add, Nat.mod_eq_of_lt (Nat.lt_of_le_of_lt (mc_le _ _ _ _) hq)]
theorem ring_m (R : RingP) (i : Nat) (hi : i < 4) : R.cells[i]? = some (dig R.m i : Int) := by
 match i, hi with
 | 0, _ => rfl
 | 1, _ => rfl
 | 2, _ => rfl
 | 3, _ => rfl
theorem u64_wrap (n : Nat) : IntKind.u64.wrap (n : Int) = ((n % BB : Nat) : Int) := by
 show IntKind.u64.wrap (n : Int) = ((n % 18446744073709551616 : Nat) : Int)
 simp only [IntKind.wrap, IntKind.bits, IntKind.signed, Bool.false_and]
 rw [if_neg (by simp)]
 omega
theorem Mul_at (x y h l : Nat) (hx : x < BB) (hy : y < BB) (eh : x * y / BB = h) (el : x * y % BB = l) (w : World) : Calls Try.prog 167 #[.int .u64 (x : Int), .int .u64 (y : Int)] w fun e w' => e = .returned (.tuple #[.int .u64 (h : Int), .int .u64 (l : Int)]) ∧ Below w.heap.size w w' := by
 subst eh
 subst el
 refine (Try.bits_Mul64 x y hx hy w).mono ?_
 rintro e w' ⟨rfl, rfl⟩
 exact ⟨rfl, Below.refl _ _⟩
theorem mul_any (R : RingP) (rb off a b : Nat) (ha : a < BB ^ 4) (hb : b < R.m) (hm : R.m < BB ^ 3 * 4611686018427387904) (hl : R.low < BB) (hlow : (R.low * R.m + 1) % BB = 0) (w : World) (hR : RingAt w rb off R) :
  Calls Try.prog 115 #[.pointer (some ⟨rb, off, none⟩), limbV a, limbV b] w fun e w' => (∃ r, e = .returned (limbV r) ∧ r < R.m ∧ (r * BB ^ 4) % R.m = (a * b) % R.m) ∧ Below w.heap.size w w' := by
 unfold limbV
 go_enter Try.func115, Try.ntmps115
 go_wp2_with fail
 generalize hW0 : (((w.alloc (Obj.cells #[.int .u64 (dig (a) 0 : Int), .int .u64 (dig (a) 1 : Int), .int .u64 (dig (a) 2 : Int), .int .u64 (dig (a) 3 : Int)] 96)).alloc (Obj.cells #[.int .u64 (dig (b) 0 : Int), .int .u64 (dig (b) 1 : Int), .int .u64 (dig (b) 2 : Int), .int .u64 (dig (b) 3 : Int)] 96)).alloc (Obj.cells #[.int .u64 0, .int .u64 0, .int .u64 0, .int .u64 0] 96)).alloc (Obj.cells #[.int .u64 0, .int .u64 0, .int .u64 0, .int .u64 0, .int .u64 0] 232) = W0 at *
 have hA : Blk W0 w.heap.size 96 (lim a) := by rw [← hW0]; exact (((Blk.new w _ (lim a) _ rfl).alloc _).alloc _).alloc _
 have hB : Blk W0 (w.heap.size + 1) 96 (lim b) := by
  rw [← hW0]
  have h := ((Blk.new (w.alloc (Obj.cells #[.int .u64 (dig (a) 0 : Int), .int .u64 (dig (a) 1 : Int), .int .u64 (dig (a) 2 : Int), .int .u64 (dig (a) 3 : Int)] 96)) 96 (lim b) _ rfl).alloc (Obj.cells #[.int .u64 0, .int .u64 0, .int .u64 0, .int .u64 0] 96)).alloc (Obj.cells #[.int .u64 0, .int .u64 0, .int .u64 0, .int .u64 0, .int .u64 0] 232)
  rwa [World.size_alloc] at h
 have hC : Blk W0 (w.heap.size + 2) 96 [0, 0, 0, 0] := by
  rw [← hW0]
  have h := (Blk.new ((w.alloc (Obj.cells #[.int .u64 (dig (a) 0 : Int), .int .u64 (dig (a) 1 : Int), .int .u64 (dig (a) 2 : Int), .int .u64 (dig (a) 3 : Int)] 96)).alloc (Obj.cells #[.int .u64 (dig (b) 0 : Int), .int .u64 (dig (b) 1 : Int), .int .u64 (dig (b) 2 : Int), .int .u64 (dig (b) 3 : Int)] 96)) 96 [0, 0, 0, 0] _ rfl).alloc (Obj.cells #[.int .u64 0, .int .u64 0, .int .u64 0, .int .u64 0, .int .u64 0] 232)
  rw [World.size_alloc, World.size_alloc] at h
  exact h
 have hT : Blk W0 (w.heap.size + 3) 232 (lim5 (montTo a b R.m R.low 0)) := by
  have e0 : lim5 (montTo a b R.m R.low 0) = [0, 0, 0, 0, 0] := by simp [lim5, montTo, dig]
  rw [← hW0, e0]
  have h := Blk.new (((w.alloc (Obj.cells #[.int .u64 (dig (a) 0 : Int), .int .u64 (dig (a) 1 : Int), .int .u64 (dig (a) 2 : Int), .int .u64 (dig (a) 3 : Int)] 96)).alloc (Obj.cells #[.int .u64 (dig (b) 0 : Int), .int .u64 (dig (b) 1 : Int), .int .u64 (dig (b) 2 : Int), .int .u64 (dig (b) 3 : Int)] 96)).alloc (Obj.cells #[.int .u64 0, .int .u64 0, .int .u64 0, .int .u64 0] 96)) 232 [0, 0, 0, 0, 0] _ rfl
  rw [World.size_alloc, World.size_alloc, World.size_alloc] at h
  exact h
 have hBW : Below w.heap.size w W0 := by rw [← hW0]; exact ((((Below.refl _ _).alloc (Nat.le_refl _) _).alloc (by simp) _).alloc (by simp; omega) _).alloc (by simp; omega) _
 clear hW0
 have hR0 := hR.up hBW
 have hrl := hR.lt
 have HA := Lib.hid hA
 have HB := Lib.hid hB
 have HC := Lib.hid hC
 have HBW := Lib.hid hBW
 have HR0 := Lib.hid hR0
 have HLA := Lib.hid ha
 have HLB := Lib.hid hb
 have HLM := Lib.hid hm
 have HLL := Lib.hid hl
 have HLW := Lib.hid hlow
 have hsz0 := hT.lt
 clear hA hB hC hBW hR0 hR ha hb hm hl hlow
 go_loopw [8, 9, 10, 11, 12, 13, 14, 15, 16, 17, 18] (fun _ _ _ _ _ _ _ _ _ _ i wr => ∃ j : Nat, j ≤ 4 ∧ i = .int .i64 j ∧ Hid (Blk wr (w.heap.size + 3) 232 (lim5 (montTo a b R.m R.low j))) ∧ Hid (Below (w.heap.size + 3) W0 wr)) (fun _ _ _ _ _ _ _ _ _ _ i _ => 4 - (intOf i).toNat)
 case atStart => exact ⟨0, Nat.zero_le _, rfl, hT, Below.refl _ _⟩
 case round =>
  clear hT
  obtain ⟨i, hi, rfl, HT, HN⟩ := hrel
  by_cases hil : i < 4
  ·generalize hZ : montTo a b R.m R.low i = T at *
   have HZ := Lib.hid hZ
   clear hZ
   have hxa := (HA.out.below HN.out (by omega)).cell (lim_at a i hil)
   have hdx := dig_lt a i
   generalize hx : dig a i = x at *
   have HX := Lib.hid hx
   clear hx
   have hszr := HN.out.size
   go_wp2_with fail
   go_loopw [9, 10, 11, 12, 13, 21] (fun c _ _ _ _ jv w1 => ∃ j : Nat, j ≤ 4 ∧ jv = .int .i64 j ∧ c = .int .u64 (mc T b x j : Int) ∧ Hid (Blk w1 (w.heap.size + 3) 232 (mix5 (T + x * b) T j)) ∧ Hid (Below (w.heap.size + 3) W0 w1)) (fun _ _ _ _ _ jv _ => 4 - (intOf jv).toNat)
   case atStart => exact ⟨0, Nat.zero_le _, rfl, by simp [mc_zero], by show Blk _ _ _ _; rw [mix5_zero]; exact HT.out, HN.out⟩
   case round =>
    clear HT HN hszr
    obtain ⟨j, hj, rfl, rfl, HT, HN⟩ := hrel
    by_cases hjl : j < 4
    ·have hxa1 := (HA.out.below HN.out (by omega)).cell (lim_at a i hil)
     rw [HX.out] at hxa1
     have hxb := (HB.out.below HN.out (by omega)).cell (lim_at b j hjl)
     have hxt := HT.out.cell (mix5_at (T + x * b) T j (by omega))
     have hxf := HT.out.frozen j
     have hsz1 := HN.out.size
     have htl := HT.out.lt
     clear hxa
     have hdy := dig_lt b j
     have hdt := dig_lt T j
     have hmc : mc T b x j < BB := Nat.lt_of_le_of_lt (mc_le T b x j) hdx
     have hmac := mac_split (dig T j) (x * dig b j) (mc T b x j) (mac_lt _ _ _ _ hdt hdx hdy hmc)
     rw [mc_dig, mc_succ] at hmac
     have hset := HT.out.set j (dig (T + x * b) j : Int)
     rw [mix5_set _ _ _ (by omega)] at hset
     have HSET := Lib.hid hset
     have HMAC := Lib.hid hmac
     have HDX := Lib.hid hdx
     have HDY := Lib.hid hdy
     have HDT := Lib.hid hdt
     have HMC := Lib.hid hmc
     clear hset hmac hdy hdt hmc
     generalize hy : dig b j = y at *
     have HY := Lib.hid hy
     clear hy
     obtain ⟨h0, eh⟩ : ∃ h0, x * y / BB = h0 := ⟨_, rfl⟩
     obtain ⟨l0, el⟩ : ∃ l0, x * y % BB = l0 := ⟨_, rfl⟩
     have hm3 := HMAC.out
     rw [eh, el] at hm3
     generalize ht : dig T j = t at *
     have HTT := Lib.hid ht
     clear ht
     have hl0 : l0 < BB := by rw [← el]; exact Nat.mod_lt _ (by decide)
     obtain ⟨s1, es1⟩ : ∃ s1, (l0 + t) % BB = s1 := ⟨_, rfl⟩
     obtain ⟨k1, ek1⟩ : ∃ k1, (l0 + t) / BB = k1 := ⟨_, rfl⟩
     rw [es1, ek1] at hm3
     obtain ⟨h1, eh1⟩ : ∃ h1, h0 + k1 = h1 := ⟨_, rfl⟩
     rw [eh1] at hm3
     generalize hc : mc T b x j = c at *
     obtain ⟨k2, ek2⟩ : ∃ k2, (s1 + c) / BB = k2 := ⟨_, rfl⟩
     rw [ek2] at hm3
     have hcall1 : ∀ W, (callFunc 168 #[.int .u64 (l0 : Int), .int .u64 (t : Int), .int .u64 0]).run Try.prog W = .ok (.value (.tuple #[.int .u64 (s1 : Int), .int .u64 (k1 : Int)])) W := by
      intro W
      rw [add64 _ _ _ (by omega) (by omega) (by omega) (by omega), ← es1, ← ek1]
      simp [BB]
     have hcall2 : ∀ W, (callFunc 168 #[.int .u64 (s1 : Int), .int .u64 (c : Int), .int .u64 0]).run Try.prog W = .ok (.value (.tuple #[.int .u64 (dig (T + x * b) j : Int), .int .u64 (k2 : Int)])) W := by
      intro W
      rw [add64 _ _ _ (by omega) (by omega) (by omega) (by omega), ← hm3.1, ← ek2]
      simp [BB]
     have HEH := Lib.hid eh
     have HEL := Lib.hid el
     have HM3 := Lib.hid hm3
     have HEH1 := Lib.hid eh1
     have HC1 := Lib.hid hc
     clear eh el hm3 eh1 hc es1 ek1 ek2 hl0
     go_wp2_with fail
     refine wp_region_over (by kernel_rfl) (by kernel_rfl) ?_
     have hov := fun (E : Over wr) o => E.cell (b := w.heap.size) o (by omega)
     have hov2 := fun (E : Over wr) o => E.cell (b := w.heap.size + 1) o (by omega)
     repeat (go_big_quiet_step (first | (go_at_call 167; exact calls_over (Mul_at x y h0 l0 HDX.out HDY.out HEH.out HEL.out _))))
     refine wpQuiet_nil ?_
     rintro _ ⟨E, rfl⟩
     have HNE := Lib.hid (HN.out.trans (E.h.mono (by omega)))
     have HTE := Lib.hid (HT.out.below E.h HT.out.lt)
     clear hov hov2 hxt hxf
     generalize E.w = w5 at *
     have hxt := HTE.out.cell (mix5_at (T + x * b) T j (by omega))
     have hxf := HTE.out.frozen j
     rw [HTT.out] at hxt
     have hset2 := HTE.out.set j (dig (T + x * b) j : Int)
     rw [mix5_set _ _ _ (by omega)] at hset2
     have HSET2 := Lib.hid hset2
     have HBE := Lib.hid (HNE.out.setCell (p := ⟨w.heap.size + 3, j, none⟩) (Nat.le_refl _) (.int .u64 (dig (T + x * b) j : Int)))
     clear hset2
     go_wp2_with fail
     go_roundw
     case rel => exact ⟨j + 1, by omega, by go_num, by rw [← Int.natCast_add, HEH1.out, u64_wrap, HM3.out.2.1, ← Int.natCast_add, u64_wrap, HM3.out.2.2], HSET2.out, HBE.out⟩
     case measure => simp [intOf]; omega
    ·have hj4 : j = 4 := by omega
     subst hj4
     have hb4 : dig b 4 = 0 := by
      unfold dig
      rw [Nat.div_eq_of_lt (Nat.lt_trans HLB.out (Nat.lt_of_lt_of_le HLM.out (by decide)))]
      rfl
     have hy4 := mc_dig T b x 4
     rw [hb4, Nat.mul_zero, Nat.add_zero] at hy4
     have HY4 := Lib.hid hy4
     clear hb4 hy4 hxa
     generalize hYY : T + x * b = Y at *
     have HYY := Lib.hid hYY
     clear hYY
     have hw4 : IntKind.u64.wrap ((dig T 4 : Int) + (mc T b x 4 : Int)) = (dig Y 4 : Int) := by rw [← Int.natCast_add, u64_wrap, HY4.out]
     have ht4 := HT.out.cell (mix5_at Y T 4 (by omega))
     have ht0 := HT.out.cell (i := 0) (x := (dig Y 0 : Int)) rfl
     have hf4 := HT.out.frozen 4
     have hset4 := HT.out.set 4 (dig Y 4 : Int)
     rw [mix5_set _ _ _ (by omega)] at hset4
     have HT6 : Hid (Blk (wr.setCell ⟨w.heap.size + 1 + 1 + 1, 4, none⟩ (.int .u64 (dig Y 4 : Int))) (w.heap.size + 3) 232 (lim5 Y)) := hset4
     have HN6 : Hid (Below (w.heap.size + 3) W0 (wr.setCell ⟨w.heap.size + 1 + 1 + 1, 4, none⟩ (.int .u64 (dig Y 4 : Int)))) := HN.out.setCell (p := ⟨w.heap.size + 3, 4, none⟩) (Nat.le_refl _) (.int .u64 (dig Y 4 : Int))
     have htl := HT.out.lt
     clear hset4
     go_wp2_with fail
     generalize wr.setCell ⟨w.heap.size + 1 + 1 + 1, 4, none⟩ (.int .u64 (dig Y 4 : Int)) = w6 at *
     have HR6 := Lib.hid (HR0.out.below HN6.out (by omega))
     have hlw := HR6.out.cell 12 (R.low : Int) rfl
     have ht0 := HT6.out.cell (i := 0) (x := (dig Y 0 : Int)) rfl
     have hq : IntKind.u64.wrap ((dig Y 0 : Int) * (R.low : Int)) = ((dig Y 0 * R.low % BB : Nat) : Int) := by rw [← Int.natCast_mul, u64_wrap]
     have hql : dig Y 0 * R.low % BB < BB := Nat.mod_lt _ (by decide)
     generalize hqq : dig Y 0 * R.low % BB = q at *
     have HQ := Lib.hid hqq
     have HQL := Lib.hid hql
     have hrb6 := HR6.out.lt
     have ht6l := HT6.out.lt
     clear hqq hql ht4 hf4 hw4 HT HN
     refine wp_region_tree (fun w' => ∃ E : Over w6, w' = E.w) (.qs [0, 1, 2, 3, 4, 5, 6, 7] .done) (by kernel_rfl) (by kernel_rfl) (fun _ _ d _ _ h => by cases d <;> exact h) ⟨⟨_, (Below.refl _ _).drew⟩, rfl⟩ ?_
     have hov := fun (E : Over w6) o => E.cell (b := w.heap.size + 3) o (by omega)
     have hov2 := fun (E : Over w6) o => E.cell (b := rb) o (by omega)
     simp only [Tree.qs]
     repeat (refine tree_q rfl rfl ?_; go_big_quiet_step (fail); refine wpQuiet_nil ?_)
     refine tree_end ?_
     clear hov hov2
     have hr0 : w6.cell? ⟨rb, off, none⟩ = some (.int .u64 (dig R.m 0 : Int)) := HR6.out.cell 0 (dig R.m 0 : Int) rfl
     have hdm := dig_lt R.m 0
     have HDM := Lib.hid hdm
     obtain ⟨h0, eh⟩ : ∃ h0, q * dig R.m 0 / BB = h0 := ⟨_, rfl⟩
     obtain ⟨l0, el⟩ : ∃ l0, q * dig R.m 0 % BB = l0 := ⟨_, rfl⟩
     have HEH := Lib.hid eh
     have HEL := Lib.hid el
     clear hdm eh el hlw hq
     generalize hm0 : dig R.m 0 = m0 at *
     have HM0 := Lib.hid hm0
     clear hm0
     go_wp2_with fail
     refine (Mul_at q m0 h0 l0 HQL.out HDM.out HEH.out HEL.out _).mono ?_
     rintro e w7 ⟨rfl, hb7⟩
     have hb67 : Below w6.heap.size w6 w7 := (Below.refl _ _).drew.trans hb7
     have HT7 := Lib.hid (HT6.out.below hb67 HT6.out.lt)
     have HN7 := Lib.hid (HN6.out.trans (hb67.mono (by omega)))
     clear hb7 hb67 hr0 ht0 HT6
     have ht0 := HT7.out.cell (i := 0) (x := (dig Y 0 : Int)) rfl
     have htl7 := HT7.out.lt
     have HC1 : Hid (∃ s1 k1 : Nat, (∀ W, (callFunc 168 #[.int .u64 (l0 : Int), .int .u64 (dig Y 0 : Int), .int .u64 0]).run Try.prog W = .ok (.value (.tuple #[.int .u64 (s1 : Int), .int .u64 (k1 : Int)])) W) ∧ IntKind.u64.wrap ((h0 : Int) + (k1 : Int)) = (mc Y R.m q 1 : Int)) := by
      have hl0 : l0 < BB := by rw [← HEL.out]; exact Nat.mod_lt _ (by decide)
      have hdt := dig_lt Y 0
      have hm1 := mac_split (dig Y 0) (q * m0) 0 (mac_lt _ _ _ _ hdt HQL.out HDM.out (by decide))
      have hs1 := mc_succ Y R.m q 0
      rw [HM0.out, mc_zero] at hs1
      rw [HEH.out, HEL.out, hs1] at hm1
      refine ⟨(l0 + dig Y 0) % BB, (l0 + dig Y 0) / BB, fun W => ?_, ?_⟩
      ·rw [add64 _ _ _ (by omega) (by omega) (by omega) (by omega)]
       simp [BB]
      ·rw [← Int.natCast_add, u64_wrap, ← hm1.2.2]
       congr 1
       have h2 := hm1.2.1
       generalize (l0 + dig Y 0) / BB = k at *
       have h3 : ((l0 + dig Y 0) % BB + 0) / BB = 0 := by rw [Nat.add_zero]; exact Nat.div_eq_of_lt (Nat.mod_lt _ (by decide))
       rw [h3]; rfl
     obtain ⟨s1, k1, hcall1, hcw⟩ := HC1.out
     have HCW := Lib.hid hcw
     clear hcw HC1
     go_wp2_with fail
     rw [HCW.out]
     clear hcall1
     have hsz7 := HN7.out.size
     go_loopw [9, 10, 15, 16, 17] (fun c _ _ _ jv w1 => ∃ n : Nat, n ≤ 3 ∧ jv = .int .i64 ((n : Int) + 1) ∧ c = .int .u64 (mc Y R.m q (n + 1) : Int) ∧ Hid (Blk w1 (w.heap.size + 3) 232 (mixR (Y + q * R.m) Y n)) ∧ Hid (Below (w.heap.size + 3) W0 w1)) (fun _ _ _ _ jv _ => 4 - (intOf jv).toNat)
     case atStart => exact ⟨0, Nat.zero_le _, rfl, rfl, by show Blk _ _ _ _; rw [mixR_zero]; exact HT7.out, HN7.out⟩
     case round =>
      clear HT7 HN7 hsz7 ht0 htl7 HN6
      obtain ⟨n, hn, rfl, rfl, HT, HN⟩ := hrel
      have hsz1 := HN.out.size
      have htl := HT.out.lt
      have HR1 := Lib.hid (HR0.out.below HN.out (by omega))
      have hrb1 := HR1.out.lt
      by_cases hnl : n < 3
      ·have hdy := dig_lt R.m (n + 1)
       have hdt := dig_lt Y (n + 1)
       have hmc : mc Y R.m q (n + 1) < BB := Nat.lt_of_le_of_lt (mc_le Y R.m q (n + 1)) HQL.out
       have hmac := mac_split (dig Y (n + 1)) (q * dig R.m (n + 1)) (mc Y R.m q (n + 1)) (mac_lt _ _ _ _ hdt HQL.out hdy hmc)
       rw [mc_dig, mc_succ] at hmac
       have hrm : wr.cell? ⟨rb, off + (n + 1), none⟩ = some (.int .u64 (dig R.m (n + 1) : Int)) := HR1.out.cell (n + 1) _ (ring_m R (n + 1) (by omega))
       have hxt := HT.out.cell (mixR_at (Y + q * R.m) Y n (by omega))
       have hset := HT.out.set n (dig (Y + q * R.m) (n + 1) : Int)
       rw [mixR_set _ _ _ (by omega)] at hset
       have HSET := Lib.hid hset
       have HMAC := Lib.hid hmac
       have HDY := Lib.hid hdy
       have HDT := Lib.hid hdt
       have HMC := Lib.hid hmc
       clear hset hmac hdy hdt hmc hxt
       generalize hy : dig R.m (n + 1) = y at *
       clear hy
       obtain ⟨h1, eh⟩ : ∃ h1, q * y / BB = h1 := ⟨_, rfl⟩
       obtain ⟨l1, el⟩ : ∃ l1, q * y % BB = l1 := ⟨_, rfl⟩
       have hm3 := HMAC.out
       rw [eh, el] at hm3
       generalize ht : dig Y (n + 1) = t at *
       have HTT := Lib.hid ht
       clear ht
       have hl0 : l1 < BB := by rw [← el]; exact Nat.mod_lt _ (by decide)
       obtain ⟨s2, es1⟩ : ∃ s2, (l1 + t) % BB = s2 := ⟨_, rfl⟩
       obtain ⟨k2, ek1⟩ : ∃ k2, (l1 + t) / BB = k2 := ⟨_, rfl⟩
       rw [es1, ek1] at hm3
       obtain ⟨h2, eh1⟩ : ∃ h2, h1 + k2 = h2 := ⟨_, rfl⟩
       rw [eh1] at hm3
       generalize hc : mc Y R.m q (n + 1) = c at *
       obtain ⟨k3, ek2⟩ : ∃ k3, (s2 + c) / BB = k3 := ⟨_, rfl⟩
       rw [ek2] at hm3
       have hcall1 : ∀ W, (callFunc 168 #[.int .u64 (l1 : Int), .int .u64 (t : Int), .int .u64 0]).run Try.prog W = .ok (.value (.tuple #[.int .u64 (s2 : Int), .int .u64 (k2 : Int)])) W := by
        intro W
        rw [add64 _ _ _ (by omega) (by omega) (by omega) (by omega), ← es1, ← ek1]
        simp [BB]
       have hcall2 : ∀ W, (callFunc 168 #[.int .u64 (s2 : Int), .int .u64 (c : Int), .int .u64 0]).run Try.prog W = .ok (.value (.tuple #[.int .u64 (dig (Y + q * R.m) (n + 1) : Int), .int .u64 (k3 : Int)])) W := by
        intro W
        rw [add64 _ _ _ (by omega) (by omega) (by omega) (by omega), ← hm3.1, ← ek2]
        simp [BB]
       have HEH1' := Lib.hid eh
       have HEL1 := Lib.hid el
       have HM3 := Lib.hid hm3
       have HEH1 := Lib.hid eh1
       have HC1 := Lib.hid hc
       clear eh el hm3 eh1 hc es1 ek1 ek2 hl0
       go_wp2_with fail
       refine (Mul_at q y h1 l1 HQL.out HDY.out HEH1'.out HEL1.out _).mono ?_
       rintro e w5 ⟨rfl, hb5⟩
       have HNE := Lib.hid (HN.out.trans (hb5.mono (by omega)))
       have HTE := Lib.hid (HT.out.below hb5 HT.out.lt)
       clear hb5
       have hxt := HTE.out.cell (mixR_at (Y + q * R.m) Y n (by omega))
       have hxt2 : ∃ v, w5.cell? ⟨w.heap.size + 3, n, none⟩ = some v := ⟨_, HTE.out.cell (List.getElem?_eq_getElem (by simp [mixR]; omega))⟩
       obtain ⟨v2, hxt2⟩ := hxt2
       have hxf := HTE.out.frozen n
       rw [HTT.out] at hxt
       have hset2 := HTE.out.set n (dig (Y + q * R.m) (n + 1) : Int)
       rw [mixR_set _ _ _ (by omega)] at hset2
       have HSET2 := Lib.hid hset2
       have HBE := Lib.hid (HNE.out.setCell (p := ⟨w.heap.size + 3, n, none⟩) (Nat.le_refl _) (.int .u64 (dig (Y + q * R.m) (n + 1) : Int)))
       clear hset2 hrm
       go_wp2_with fail
       go_roundw
       case rel => exact ⟨n + 1, by omega, by go_num, by rw [← Int.natCast_add, HEH1.out, u64_wrap, HM3.out.2.1, ← Int.natCast_add, u64_wrap, HM3.out.2.2], HSET2.out, HBE.out⟩
       case measure => simp [intOf]; omega
      ·have hn3 : n = 3 := by omega
       subst hn3
       obtain ⟨hd0, hd5, hd4⟩ := dig_five Y R.m q (by
        have h1 := montTo_lt a b R.m R.low (by have := HLB.out; omega) i
        rw [HZ.out] at h1
        have h2 := dig_lt a i
        rw [HX.out] at h2
        have h3 : x * b ≤ BB * b := Nat.mul_le_mul_right _ (by omega)
        have h4 := HLB.out
        have h5 := HLM.out
        rw [← HYY.out]
        show _ < 18446744073709551616 ^ 5
        simp only [BB] at h3 h5
        omega) (Nat.lt_trans HLM.out (by decide)) HQL.out
       have hcall : ∀ W, (callFunc 168 #[.int .u64 (dig Y 4 : Int), .int .u64 (mc Y R.m q 4 : Int), .int .u64 0]).run Try.prog W = .ok (.value (.tuple #[.int .u64 (dig (Y + q * R.m) 4 : Int), .int .u64 (dig (Y + q * R.m) 5 : Int)])) W := by
        intro W
        rw [add64 _ _ _ (by omega) (by omega) (by omega) (by omega), ← hd4, ← hd5]
        simp [BB]
       have ht4 := HT.out.cell (i := 4) (x := (dig Y 4 : Int)) rfl
       have ht3 := HT.out.cell (i := 3) (x := (dig Y 3 : Int)) rfl
       have hf3 := HT.out.frozen 3
       have hf4 := HT.out.frozen 4
       have hset := (HT.out.set 3 (dig (Y + q * R.m) 4 : Int)).set 4 (dig (Y + q * R.m) 5 : Int)
       rw [mixR_set _ _ _ (by omega), mixR_set _ _ _ (by omega), mixR_five] at hset
       have HS2 := Lib.hid hset
       clear hset hd0 hd5 hd4
       go_wp2_with fail
       have hmt : (Y + q * R.m) / BB = montTo a b R.m R.low (i + 1) := by
        rw [montTo, HZ.out, HX.out, HYY.out, HQ.out]
       have HMT := Lib.hid hmt
       clear hmt
       go_roundw
       case rel => exact ⟨i + 1, by omega, by go_num, by rw [← HMT.out]; exact HS2.out, (HN.out.setCell (p := ⟨w.heap.size + 3, 3, none⟩) (Nat.le_refl _) _).setCell (p := ⟨w.heap.size + 3, 4, none⟩) (Nat.le_refl _) _⟩
       case measure => simp [intOf]; omega
  ·have hi4 : i = 4 := by omega
   subst hi4
   have h0 := HT.out.cell (i := 0) (x := (dig (montTo a b R.m R.low 4) 0 : Int)) rfl
   have h1 := HT.out.cell (i := 1) (x := (dig (montTo a b R.m R.low 4) 1 : Int)) rfl
   have h2 := HT.out.cell (i := 2) (x := (dig (montTo a b R.m R.low 4) 2 : Int)) rfl
   have h3 := HT.out.cell (i := 3) (x := (dig (montTo a b R.m R.low 4) 3 : Int)) rfl
   have htl := HT.out.lt
   have hsz := HN.out.size
   have harr := run_arrayAt (P := Try.prog) (w := wr) 96 94 4 (some ⟨w.heap.size + 1 + 1 + 1, 0, none⟩) 4 5 Try.underlying96 (by decide)
   have hbl : Below w.heap.size w wr := HBW.out.trans (HN.out.mono (by omega))
   have HBL := Lib.hid hbl
   have HR5 := Lib.hid (HR0.out.below HN.out (by omega))
   have hTT : montTo a b R.m R.low 4 < BB ^ 4 := by
    have h1 := montTo_lt a b R.m R.low (by have := HLB.out; omega) 4
    have h4 := HLB.out
    have h5 := HLM.out
    show _ < 18446744073709551616 ^ 4
    simp only [BB] at h5
    omega
   have hT2 : montTo a b R.m R.low 4 < R.m + R.m := by
    have h1 := montTo_lt a b R.m R.low (by have := HLB.out; omega) 4
    have h4 := HLB.out
    omega
   have hT3 := montTo_mod a b R.m R.low HLW.out 4
   rw [Nat.mod_eq_of_lt HLA.out] at hT3
   have HT2 := Lib.hid hT2
   have HT3 := Lib.hid hT3
   have HTT := Lib.hid hTT
   have HC5 := Lib.hid (HC.out.below HN.out (by omega))
   clear hbl hTT hT2 hT3
   generalize montTo a b R.m R.low 4 = T at *
   go_wp2_with fail
   refine (once_any R rb off T _ HTT.out (Nat.lt_trans HLM.out (by decide)) rfl wr HR5.out).mono ?_
   rintro e w3 ⟨rfl, hb3⟩
   have hfin : (if R.m ≤ T then T - R.m else T) < R.m ∧ ((if R.m ≤ T then T - R.m else T) * BB ^ 4) % R.m = (a * b) % R.m := by
    have h2 := HT2.out
    rw [← HT3.out]
    split
    ·refine ⟨by omega, ?_⟩
     have e : T * BB ^ 4 = (T - R.m) * BB ^ 4 + R.m * BB ^ 4 := by rw [← Nat.add_mul]; congr 1; omega
     rw [e, Nat.add_mul_mod_self_left]
    ·exact ⟨by omega, rfl⟩
   have HFIN := Lib.hid hfin
   clear hfin
   generalize (if R.m ≤ T then T - R.m else T) = r at *
   unfold limbV
   have HZ := Lib.hid (HC5.out.below hb3 HC5.out.lt)
   have HBB := Lib.hid (below_up HBL.out hb3)
   clear hb3 harr h0 h1 h2 h3
   have HB5 := Lib.hid (below_fill (n := r) (b := w.heap.size + 1 + 1) HBB.out (by omega))
   have HS5 := Lib.hid (HZ.out.fill rfl r)
   have hz_ := Blk.z4 HZ.out
   have hzf_ := HZ.out.frozen
   go_wp2_with fail
   generalize (((((w3).setCell ⟨w.heap.size + 1 + 1, 0, none⟩ (.int .u64 (dig (r) 0 : Int))).setCell ⟨w.heap.size + 1 + 1, 1, none⟩ (.int .u64 (dig (r) 1 : Int))).setCell ⟨w.heap.size + 1 + 1, 2, none⟩ (.int .u64 (dig (r) 2 : Int))).setCell ⟨w.heap.size + 1 + 1, 3, none⟩ (.int .u64 (dig (r) 3 : Int))) = w5 at *
   clear hz_
   have hg_ := Blk.l4 (r) HS5.out
   simp [bodyPost, results, Try.results115, go_sem, hg_]
   exact ⟨⟨r, ⟨rfl, rfl, rfl, rfl⟩, HFIN.out⟩, HB5.out⟩
end Go.Proofs.Ytjmeakfjfpnciaa
namespace Go.Proofs.Ytjmeakfjfpnciaa
def mont (m x : Nat) : Nat := x * BB ^ 4 % m
theorem mont_lt {m : Nat} (hm : 0 < m) (x : Nat) : mont m x < m := Nat.mod_lt _ hm
theorem mont_mod (m x : Nat) : mont m (x % m) = mont m x := by unfold mont; rw [Nat.mod_mul_mod]
theorem base_inv {low m : Nat} (h : (low * m + 1) % BB = 0) : ∃ k, ∀ a, (a * BB ^ 4 * k) % m = a % m := by
 obtain ⟨k, hk⟩ := Nat.dvd_of_mod_eq_zero h
 refine ⟨k ^ 4, fun a => ?_⟩
 have e : a * BB ^ 4 * k ^ 4 = a * (low * m + 1) ^ 4 := by rw [hk, Nat.mul_pow, Nat.mul_assoc]
 have e1 : (low * m + 1) ^ 4 % m = 1 % m := by
  rw [Nat.pow_mod]
  have : (low * m + 1) % m = 1 % m := by rw [Nat.mul_comm low m, Nat.add_comm, Nat.add_mul_mod_self_left]
  rw [this, ← Nat.pow_mod, Nat.one_pow]
 rw [e, Nat.mul_mod, e1, ← Nat.mul_mod, Nat.mul_one]
theorem mont_cancel {low m : Nat} (h : (low * m + 1) % BB = 0) {a b : Nat} (e : (a * BB ^ 4) % m = (b * BB ^ 4) % m) : a % m = b % m := by
 obtain ⟨k, hk⟩ := base_inv h
 have h1 := hk a
 have h2 := hk b
 rw [← h1, ← h2, Nat.mul_mod, e, ← Nat.mul_mod]
theorem mont_mul {low m : Nat} (h : (low * m + 1) % BB = 0) {r x y : Nat} (hr : r < m) (e : (r * BB ^ 4) % m = (mont m x * mont m y) % m) : r = mont m (x * y) := by
 have hm : 0 < m := by omega
 have h2 : (r * BB ^ 4) % m = (mont m (x * y) * BB ^ 4) % m := by
  rw [e]; unfold mont
  simp only [Nat.mod_mul_mod, Nat.mul_mod_mod]
  generalize BB ^ 4 = B
  rw [show x * B * (y * B) = x * y * B * B by rw [Nat.mul_mul_mul_comm, Nat.mul_assoc (x * y)]]
 have := mont_cancel h h2
 rwa [Nat.mod_eq_of_lt hr, Nat.mod_eq_of_lt (mont_lt hm _)] at this
theorem mont_in {low m : Nat} (h : (low * m + 1) % BB = 0) {r a up : Nat} (hr : r < m) (hu : up = BB ^ 8 % m) (e : (r * BB ^ 4) % m = (a * up) % m) : r = mont m a := by
 have hm : 0 < m := by omega
 have h2 : (r * BB ^ 4) % m = (mont m a * BB ^ 4) % m := by
  rw [e, hu]; unfold mont
  rw [Nat.mod_mul_mod, Nat.mul_mod_mod, Nat.mul_assoc, ← Nat.pow_add]
 have := mont_cancel h h2
 rwa [Nat.mod_eq_of_lt hr, Nat.mod_eq_of_lt (mont_lt hm _)] at this
theorem mont_out {low m : Nat} (h : (low * m + 1) % BB = 0) {r x : Nat} (hr : r < m) (hx : x < m) (e : (r * BB ^ 4) % m = (mont m x * 1) % m) : r = x := by
 have h2 : (r * BB ^ 4) % m = (x * BB ^ 4) % m := by
  rw [e, Nat.mul_one]; unfold mont; rw [Nat.mod_mod]
 have := mont_cancel h h2
 rwa [Nat.mod_eq_of_lt hr, Nat.mod_eq_of_lt hx] at this
theorem mont_add (m x y : Nat) (hm : 0 < m) : (if m ≤ mont m x + mont m y then mont m x + mont m y - m else mont m x + mont m y) = mont m (x + y) := by
 have h1 := mont_lt hm x
 have h2 := mont_lt hm y
 have e : mont m (x + y) = (mont m x + mont m y) % m := by unfold mont; rw [Nat.add_mul, Nat.add_mod]
 rw [e]
 split
 ·rw [Nat.mod_eq_sub_mod (by omega), Nat.mod_eq_of_lt (by omega)]
 ·rw [Nat.mod_eq_of_lt (by omega)]
theorem mont_sub (m x y : Nat) (hy : y ≤ m) (hm : 0 < m) : (if mont m y ≤ mont m x then mont m x - mont m y else mont m x + m - mont m y) = mont m (x + (m - y)) := by
 have h1 := mont_lt hm x
 have h2 := mont_lt hm y
 have h3 := mont_lt hm (x + (m - y))
 have e : (mont m (x + (m - y)) + mont m y) % m = mont m x := by
  unfold mont
  rw [← Nat.add_mod, ← Nat.add_mul, show x + (m - y) + y = x + m by omega, Nat.add_mul, Nat.add_mul_mod_self_left]
 generalize mont m (x + (m - y)) = s at *
 generalize mont m x = a at *
 generalize mont m y = b at *
 by_cases hs : s + b < m
 ·rw [Nat.mod_eq_of_lt hs] at e; rw [if_pos (by omega)]; omega
 ·rw [Nat.mod_eq_sub_mod (by omega), Nat.mod_eq_of_lt (by omega)] at e
  rw [if_neg (by omega)]; omega
theorem mont_zero (m : Nat) : mont m 0 = 0 := by simp [mont]
theorem hex_digit (n i : Nat) : n / BB ^ (i / 16) % BB / 2 ^ (4 * (i % 16)) % 16 = n / 16 ^ i % 16 := by
 have hb : BB = 16 ^ 16 := rfl
 have h2 : (2 : Nat) ^ (4 * (i % 16)) = 16 ^ (i % 16) := by rw [Nat.pow_mul]
 rw [h2, hb, ← Nat.pow_mul]
 have hlt := Nat.mod_lt i (show 16 > 0 by omega)
 have e : (16 : Nat) ^ 16 = 16 ^ (i % 16) * (16 * 16 ^ (15 - i % 16)) := by
  rw [← Nat.pow_succ', ← Nat.pow_add]; congr 1; omega
 rw [e, Nat.mod_mul_right_div_self, Nat.mod_mul_right_mod, Nat.div_div_eq_div_mul, ← Nat.pow_add]
 congr 3
 omega
end Go.Proofs.Ytjmeakfjfpnciaa
namespace Go.Proofs.Ytjmeakfjfpnciaa
open Go.RowKit
section
variable {P : Program} {ops : Array Oper} {md : Region.Mode} {C : World → Prop} {n g : Nat} {L : Array Bool → Act → Prop} {Q' : Exit → Act → World → Prop}
def headQ (P : Program) (md : Region.Mode) (ops : Array Oper) (C : World → Prop) (n : Nat) (L : Array Bool → Act → Prop) : Nat → Array Bool → Act → Prop
 | 0, listed, a => L listed a
 | f + 1, listed, a => Region.ready md ops listed ≠ [] ∧ ∀ i ∈ Region.ready md ops listed, i < n ∧ qOp P ops C i (headQ P md ops C n L f (listed.setIfInBounds i true)) a
theorem any_of_headQ (hL : ∀ listed a w, C w → L listed a → wpAny P md ops Q' g listed a w) : ∀ (f : Nat) (listed : Array Bool) (a : Act) (w : World), C w → headQ P md ops C n L f listed a → wpAny P md ops Q' (f + g) listed a w
 | 0, listed, a, w, hw, h => by rw [Nat.zero_add]; exact hL _ _ _ hw h
 | f + 1, listed, a, w, hw, h => by
  rw [show f + 1 + g = (f + g) + 1 by omega]
  exact ⟨fun h0 => absurd h0 h.1, fun i hi => wpOp_of_qOp hw (fun a' w' hw' h' => any_of_headQ hL f _ a' w' hw' h') (h.2 i hi).2⟩
theorem headQ_first {i : Nat} {oi : Oper} {v : Value} (hi : ops[i]? = some oi) (hsel : ∀ (j : Nat) (o : Oper) cs b, ops[j]? = some o → o.op ≠ .select cs b)
  (hwait : ∀ listed, HeadInv md ops n listed → ∀ i, i < n → listed.getD i true = false → ∀ t, n ≤ t → t ∉ Region.ready md ops listed) (hin : i < n) (hdone : ∀ listed a, L listed a → ∀ j ∈ Region.ready md ops listed, n ≤ j) :
  ∀ (f : Nat) (listed : Array Bool) (a : Act), HeadInv md ops n listed →
   (∀ j oj, ops[j]? = some oj → j ≠ i → listed.getD j true = false → (∀ e ∈ oj.after, Region.binds md e = true → e.on ≠ i) → oi.apart ops oj = true) →
   i ∈ Region.ready md ops listed → YieldsIn P ops C oi v a → headQ P md ops C n L f (listed.setIfInBounds i true) (a.put oi.dst v) → headQ P md ops C n L (f + 1) listed a := by
 intro f
 induction f with
 | zero =>
  intro listed a inv _ hr hy H
  have hun := (mem_ready.1 hr).1
  refine ⟨fun h => (by rw [h] at hr; cases hr), fun j hj => ?_⟩
  have hjn : j < n := by
   rcases Nat.lt_or_ge j n with h | h
   ·exact h
   ·exact absurd hj (hwait _ inv i hin hun j h)
  refine ⟨hjn, ?_⟩
  by_cases hji : j = i
  ·subst hji; exact hy.qOp hi H
  ·have := hdone _ _ H j (ready_mono hj hji)
   omega
 | succ f ih =>
  intro listed a inv hfree hr hy H
  have hun := (mem_ready.1 hr).1
  refine ⟨fun h => (by rw [h] at hr; cases hr), fun j hj => ?_⟩
  have hjn : j < n := by
   rcases Nat.lt_or_ge j n with h | h
   ·exact h
   ·exact absurd hj (hwait _ inv i hin hun j h)
  refine ⟨hjn, ?_⟩
  by_cases hji : j = i
  ·subst hji; exact hy.qOp hi H
  ·have h1 := (H.2 j (ready_mono hj hji)).2
   obtain ⟨hjun, oj, hoj, hall⟩ := mem_ready.1 hj
   have hnot : ∀ e ∈ oj.after, Region.binds md e = true → e.on ≠ i := fun e he hb heq => by
    have h1 := hall e he hb
    rw [heq, getD_both hun] at h1
    cases h1
   have h2 := qOp_put hoj (hfree j oj hoj hji hjun hnot) (fun cs b => hsel i oi cs b hi) (fun cs b => hsel j oj cs b hoj) hy h1
   have hfree' : ∀ k ok, ops[k]? = some ok → k ≠ i → (listed.setIfInBounds j true).getD k true = false →
     (∀ e ∈ ok.after, Region.binds md e = true → e.on ≠ i) → oi.apart ops ok = true := fun k ok hk hki hun hno => by
    refine hfree k ok hk hki ?_ hno
    by_cases hjk : j = k
    ·subst hjk; exact hjun
    ·rw [getD_set_ne true hjk] at hun; exact hun
   refine qOp_mono (fun a' h3 => ih (listed.setIfInBounds j true) a' (inv.set hj hjn) hfree' (ready_mono hr (Ne.symm hji)) h3.1 ?_) h2
   rw [Array.setIfInBounds_comm _ _ hji]
   exact h3.2
theorem headQ_lex {Lq : Act → Prop} (hsel : Region.noSelect ops = true) (hs : Region.sinkB md ops n = true) (hc : Region.chainB md ops n = true) (hn : n < ops.size) :
  ∀ (l : List Oper) (k : Nat) (listed : Array Bool) (a : Act), (∀ j, j < l.length → l[j]? = ops[k + j]?) → k + l.length = n → HeadInv md ops n listed →
  Region.lexHead md ops g l.length k listed = true → wpQuiet P ops C Lq l a →
  headQ P md ops C n (fun listed' a' => Region.seqB md ops g n listed' = true ∧ Lq a') l.length listed a
 | [], k, listed, a, _, hk, _, hB, h => by
  have : k = n := by simpa using hk
  subst this
  exact ⟨by simpa [Region.lexHead] using hB, h⟩
 | o :: l, k, listed, a, hl, hk, inv, hB, h => by
  have h0 : ops[k]? = some o := by simpa using (hl 0 (by simp)).symm
  simp only [List.length_cons, Region.lexHead, Bool.and_eq_true] at hB
  obtain ⟨⟨hr, hf⟩, hB'⟩ := hB
  have hkn : k < n := by simp only [List.length_cons] at hk; omega
  have hr' : k ∈ Region.ready md ops listed := by simpa using hr
  have hst : qOp P ops C k (wpQuiet P ops C Lq l) a := by unfold qOp; simp only [h0]; exact h
  obtain ⟨v, hy, hK⟩ := yieldsIn_of_qOp h0 hst
  exact headQ_first h0 (Region.noSelect_spec hsel) (fun _ inv i hi hun => tail_waits hs hc hn inv _ i rfl hi hun) hkn (fun listed' a' hL => seqB_ready hL.1) l.length listed a inv (Region.free_spec h0 hf) hr' hy
   (headQ_lex hsel hs hc hn l (k + 1) _ _ (fun j hj => by have := hl (j + 1) (by simp; omega); simpa [Nat.add_assoc, Nat.add_comm 1 j] using this) (by simp only [List.length_cons] at hk; omega) (inv.set hr' hkn) hB' hK)
theorem wp_region_qtail {id : Nat} {Q : Exit → Act → World → Prop} {a : Act} {w : World} {l : List Oper} (n : Nat) (hm : P.follows .mixedOrders = true) (hB : Region.lexTailB .any l.toArray n = true) (hC : C w.drew)
  (h : wpQuiet P l.toArray C (fun a' => ∀ w', C w' → wpList P l.toArray Q (l.drop n) a' w') (l.take n) a) : (Code.region id l.toArray true).wp P Q a w := by
 simp only [Region.lexTailB, Bool.and_eq_true, decide_eq_true_eq] at hB
 obtain ⟨⟨⟨⟨hsel, hn⟩, hs⟩, hc⟩, hlex⟩ := hB
 have hn' : n < l.length := by simpa using hn
 have htl : (l.take n).length = n := by simp; omega
 have hdl : (l.drop n).length = l.toArray.size - n := by simp
 have inv0 : HeadInv .any l.toArray n (Array.replicate l.toArray.size false) :=
  ⟨by simp, fun j oj _ hl => (by rw [getD_replicate_false] at hl; cases hl), fun t _ ht => getD_in (by simpa using ht) (getD_replicate_false _ _)⟩
 have H := headQ_lex (md := .any) (g := l.toArray.size - n) hsel hs hc hn (l.take n) 0 _ a (fun j hj => by
  have hj' : j < n := by rw [htl] at hj; exact hj
  simp [hj']) (by simpa using htl) inv0 (by rw [htl]; exact hlex) h
 refine wp_region_any hm ?_
 have := any_of_headQ (Q' := Q) (g := l.toArray.size - n) (fun listed a' w' hw hL => by
  have := wpAny_of_seq (md := .any) (Q' := Q) (l.drop n) n listed a' w' (fun j => by simp [List.getElem?_drop]) (by rw [hdl]; exact hL.1) (hL.2 w' hw)
  rwa [hdl] at this) _ _ _ _ hC H
 rw [htl, show n + (l.toArray.size - n) = l.toArray.size by omega] at this
 exact this
end
def chainT (md : Region.Mode) (ops : Array Oper) (n : Nat) : Bool :=
 (List.range ops.size).all fun t => decide (t ≤ n) || (List.range t).any fun j => decide (n ≤ j) && Region.waitsFor md ops t j
section
variable {P : Program} {ops : Array Oper} {md : Region.Mode} {C S : World → Prop} {n : Nat} {Q : Exit → Act → World → Prop}
theorem tail_waitsT {listed : Array Bool} (hs : Region.sinkB md ops n = true) (hc : chainT md ops n = true) (hn : n < ops.size) (inv : HeadInv md ops n listed) :
  ∀ (d i : Nat), n - i = d → i < n → listed.getD i true = false → ∀ t, n ≤ t → t ∉ Region.ready md ops listed := by
 intro d
 induction d using Nat.strongRecOn with
 | _ d ih =>
  intro i hd hi hun t ht hr
  obtain ⟨_, ot, hot, hall⟩ := mem_ready.1 hr
  have htlt : t < ops.size := (Array.getElem?_eq_some_iff.1 hot).1
  rcases Nat.lt_or_ge n t with htn | htn
  ·have h1 := List.all_eq_true.1 hc t (List.mem_range.2 htlt)
   simp only [Bool.or_eq_true, decide_eq_true_eq] at h1
   rcases h1 with h1 | h1
   ·omega
   ·obtain ⟨j, hj, hj2⟩ := List.any_eq_true.1 h1
    simp only [Bool.and_eq_true, decide_eq_true_eq] at hj2
    obtain ⟨o', ho', e, he, hb, hon⟩ := Region.waitsFor_spec hj2.2
    have : o' = ot := Option.some.inj (ho'.symm.trans hot)
    subst this
    have h2 := hall e he hb
    rw [hon, getD_both (inv.tail j hj2.1 (by have := List.mem_range.1 hj; omega))] at h2
    cases h2
  ·obtain rfl : t = n := by omega
   obtain ⟨j, hj, hj2⟩ := List.any_eq_true.1 (List.all_eq_true.1 hs i (List.mem_range.2 hi))
   simp only [Bool.and_eq_true, decide_eq_true_eq] at hj2
   obtain ⟨oj, hoj, e, he, hb, hon⟩ := Region.waitsFor_spec hj2.2
   have hjle : j ≤ t := by have := List.mem_range.1 hj; omega
   by_cases hjt : j = t
   ·subst hjt
    have : oj = ot := Option.some.inj (hoj.symm.trans hot)
    subst this
    have h2 := hall e he hb
    rw [hon, getD_both hun] at h2
    cases h2
   ·cases hl : listed.getD j false with
    | true =>
     have h2 := inv.closed j oj hoj hl e he hb
     rw [hon, getD_both hun] at h2
     cases h2
    | false => exact ih (t - j) (by omega) j rfl (by omega) (getD_in (by rw [inv.size]; omega) hl) t (Nat.le_refl _) hr
def headT (md : Region.Mode) (ops : Array Oper) (n : Nat) (t : Tree) : Nat → Nat → Array Bool → Bool
 | 0, _, listed => treeB md ops t listed && (Region.ready md ops listed).all fun j => decide (n ≤ j)
 | f + 1, k, listed => (Region.ready md ops listed).contains k && Region.free md ops listed k && headT md ops n t f (k + 1) (listed.setIfInBounds k true)
theorem headT_lex {t : Tree} {Lq : Act → Prop} (hsel : Region.noSelect ops = true) (hwait : ∀ listed, HeadInv md ops n listed → ∀ i, i < n → listed.getD i true = false → ∀ t, n ≤ t → t ∉ Region.ready md ops listed) :
  ∀ (l : List Oper) (k : Nat) (listed : Array Bool) (a : Act), (∀ j, j < l.length → l[j]? = ops[k + j]?) → k + l.length = n → HeadInv md ops n listed →
  headT md ops n t l.length k listed = true → wpQuiet P ops C Lq l a →
  headQ P md ops C n (fun listed' a' => (treeB md ops t listed' = true ∧ ∀ j ∈ Region.ready md ops listed', n ≤ j) ∧ Lq a') l.length listed a
 | [], k, listed, a, _, hk, _, hB, h => by
  simp only [List.length_nil, headT, Bool.and_eq_true, List.all_eq_true, decide_eq_true_eq] at hB
  exact ⟨hB, h⟩
 | o :: l, k, listed, a, hl, hk, inv, hB, h => by
  have h0 : ops[k]? = some o := by simpa using (hl 0 (by simp)).symm
  simp only [List.length_cons, headT, Bool.and_eq_true] at hB
  obtain ⟨⟨hr, hf⟩, hB'⟩ := hB
  have hkn : k < n := by simp only [List.length_cons] at hk; omega
  have hr' : k ∈ Region.ready md ops listed := by simpa using hr
  have hst : qOp P ops C k (wpQuiet P ops C Lq l) a := by unfold qOp; simp only [h0]; exact h
  obtain ⟨v, hy, hK⟩ := yieldsIn_of_qOp h0 hst
  exact headQ_first h0 (Region.noSelect_spec hsel) hwait hkn (fun listed' a' hL => hL.1.2) l.length listed a inv (Region.free_spec h0 hf) hr' hy
   (headT_lex hsel hwait l (k + 1) _ _ (fun j hj => by have := hl (j + 1) (by simp; omega); simpa [Nat.add_assoc, Nat.add_comm 1 j] using this) (by simp only [List.length_cons] at hk; omega) (inv.set hr' hkn) hB' hK)
def qtreeB (ops : Array Oper) (n : Nat) (t : Tree) : Bool :=
 Region.noSelect ops && decide (n < ops.size) && Region.sinkB .any ops n && chainT .any ops n && decide (t.size = ops.size - n) && headT .any ops n t n 0 (Array.replicate ops.size false)
theorem wp_region_qtree {id : Nat} {a : Act} {w : World} {l : List Oper} (n : Nat) (t : Tree) (hm : P.follows .mixedOrders = true) (hB : qtreeB l.toArray n t = true)
  (hQ : ∀ c a d v w, Q (.panic c) (a.put d v) w → Q (.panic c) a w) (hC : C w.drew) (hCS : ∀ w, C w → S w)
  (h : wpQuiet P l.toArray C (fun a' => ∀ w', C w' → wpTree P l.toArray S Q t a' w') (l.take n) a) : (Code.region id l.toArray true).wp P Q a w := by
 simp only [qtreeB, Bool.and_eq_true, decide_eq_true_eq] at hB
 obtain ⟨⟨⟨⟨⟨hsel, hn⟩, hs⟩, hc⟩, ht⟩, hlex⟩ := hB
 have hn' : n < l.length := by simpa using hn
 have htl : (l.take n).length = n := by simp; omega
 have inv0 : HeadInv .any l.toArray n (Array.replicate l.toArray.size false) :=
  ⟨by simp, fun j oj _ hl => (by rw [getD_replicate_false] at hl; cases hl), fun t _ ht => getD_in (by simpa using ht) (getD_replicate_false _ _)⟩
 have H := headT_lex (md := .any) (C := C) (P := P) hsel (fun _ inv i hi hun => tail_waitsT hs hc hn inv _ i rfl hi hun) (l.take n) 0 _ a (fun j hj => by
  have hj' : j < n := by rw [htl] at hj; exact hj
  simp [hj']) (by simpa using htl) inv0 (by rw [htl]; exact hlex) h
 refine wp_region_any hm ?_
 have := any_of_headQ (Q' := Q) (g := l.toArray.size - n) (fun listed a' w' hw hL => by
  have h1 := held_of_tree hsel hQ t listed a' w' (hCS w' hw) hL.1.1 (hL.2 w' hw)
  rw [ht] at h1
  exact wpAny_of_held _ _ _ _ h1) _ _ _ _ hC H
 rw [htl, show n + (l.toArray.size - n) = l.toArray.size by omega] at this
 exact this
end
theorem wp_region_otree {P : Program} {id : Nat} {Q : Exit → Act → World → Prop} {a : Act} {w : World} {l : List Oper} (n : Nat) (t : Tree) (hm : P.follows .mixedOrders = true) (hB : qtreeB l.toArray n t = true)
  (hQ : ∀ c a d v w, Q (.panic c) (a.put d v) w → Q (.panic c) a w)
  (h : wpQuiet P l.toArray (fun w' => ∃ E : Over w, w' = E.w) (fun a' => ∀ w', (∃ E : Over w, w' = E.w) → wpTree P l.toArray (fun _ => True) Q t a' w') (l.take n) a) : (Code.region id l.toArray true).wp P Q a w :=
 wp_region_qtree (S := fun _ => True) n t hm hB hQ ⟨⟨_, (Below.refl _ _).drew⟩, rfl⟩ (fun _ _ => trivial) h
theorem wp_region_otail {P : Program} {id : Nat} {Q : Exit → Act → World → Prop} {a : Act} {w : World} {l : List Oper} (n : Nat) (hm : P.follows .mixedOrders = true) (hB : Region.lexTailB .any l.toArray n = true)
  (h : wpQuiet P l.toArray (fun w' => ∃ E : Over w, w' = E.w) (fun a' => ∀ w', (∃ E : Over w, w' = E.w) → wpList P l.toArray Q (l.drop n) a' w') (l.take n) a) : (Code.region id l.toArray true).wp P Q a w :=
 wp_region_qtail n hm hB ⟨⟨_, (Below.refl _ _).drew⟩, rfl⟩ h
end Go.Proofs.Ytjmeakfjfpnciaa
namespace Go.Proofs.Ytjmeakfjfpnciaa
open Go.RowKit
structure RingP.Ok (R : RingP) : Prop where
 top : R.m < BB ^ 3 * 4611686018427387904
 low_lt : R.low < BB
 low : (R.low * R.m + 1) % BB = 0
 up : R.up = BB ^ 8 % R.m
 one : R.one = BB ^ 4 % R.m
 big : 1 < R.m
theorem RingP.Ok.lt4 {R : RingP} (h : R.Ok) : R.m < BB ^ 4 := Nat.lt_trans h.top (by decide)
theorem RingP.Ok.pos {R : RingP} (h : R.Ok) : 0 < R.m := Nat.lt_trans (by decide) h.big
theorem RingP.Ok.mont {R : RingP} (h : R.Ok) (x : Nat) : mont R.m x < BB ^ 4 := Nat.lt_trans (mont_lt h.pos x) h.lt4
theorem RingP.Ok.one' {R : RingP} (h : R.Ok) : R.one = Go.Proofs.Ytjmeakfjfpnciaa.mont R.m 1 := by rw [h.one]; simp [Go.Proofs.Ytjmeakfjfpnciaa.mont]
theorem mulM (R : RingP) (ok : R.Ok) (rb off x y : Nat) (w : World) (hR : RingAt w rb off R) :
  Calls Try.prog 115 #[.pointer (some ⟨rb, off, none⟩), limbV (mont R.m x), limbV (mont R.m y)] w fun e w' => e = .returned (limbV (mont R.m (x * y))) ∧ Below w.heap.size w w' := by
 refine (mul_any R rb off _ _ (ok.mont x) (mont_lt ok.pos y) ok.top ok.low_lt ok.low w hR).mono ?_
 rintro e w' ⟨⟨r, rfl, h1, h2⟩, hb⟩
 rw [mont_mul ok.low h1 h2]
 exact ⟨rfl, hb⟩
theorem mulIn (R : RingP) (ok : R.Ok) (rb off a : Nat) (ha : a < BB ^ 4) (w : World) (hR : RingAt w rb off R) :
  Calls Try.prog 115 #[.pointer (some ⟨rb, off, none⟩), limbV a, limbV R.up] w fun e w' => e = .returned (limbV (mont R.m a)) ∧ Below w.heap.size w w' := by
 refine (mul_any R rb off _ _ ha (by rw [ok.up]; exact Nat.mod_lt _ ok.pos) ok.top ok.low_lt ok.low w hR).mono ?_
 rintro e w' ⟨⟨r, rfl, h1, h2⟩, hb⟩
 rw [mont_in ok.low h1 ok.up h2]
 exact ⟨rfl, hb⟩
theorem mulOut (R : RingP) (ok : R.Ok) (rb off x : Nat) (hx : x < R.m) (w : World) (hR : RingAt w rb off R) :
  Calls Try.prog 115 #[.pointer (some ⟨rb, off, none⟩), limbV (mont R.m x), limbV 1] w fun e w' => e = .returned (limbV x) ∧ Below w.heap.size w w' := by
 refine (mul_any R rb off _ _ (ok.mont x) ok.big ok.top ok.low_lt ok.low w hR).mono ?_
 rintro e w' ⟨⟨r, rfl, h1, h2⟩, hb⟩
 rw [mont_out ok.low h1 hx h2]
 exact ⟨rfl, hb⟩
theorem in_any (R : RingP) (ok : R.Ok) (rb off a : Nat) (ha : a < BB ^ 4) (w : World) (hR : RingAt w rb off R) :
  Calls Try.prog 111 #[.pointer (some ⟨rb, off, none⟩), limbV a] w fun e w' => e = .returned (limbV (mont R.m a)) ∧ Below w.heap.size w w' := by
 have HA := Lib.hid ha
 have OK := Lib.hid ok
 clear ha ok
 unfold limbV
 go_enter Try.func111, Try.ntmps111
 go_wp2_with fail
 generalize hW0 : (w.alloc (Obj.cells #[.int .u64 (dig (a) 0 : Int), .int .u64 (dig (a) 1 : Int), .int .u64 (dig (a) 2 : Int), .int .u64 (dig (a) 3 : Int)] 96)).alloc (Obj.cells #[.int .u64 0, .int .u64 0, .int .u64 0, .int .u64 0] 96) = W0 at *
 have hA : Blk W0 w.heap.size 96 (lim (a)) := by rw [← hW0]; exact (Blk.new w _ (lim (a)) _ rfl).alloc _
 have hC : Blk W0 (w.heap.size + 1) 96 [0, 0, 0, 0] := by
  rw [← hW0]
  have h := Blk.new (w.alloc (Obj.cells #[.int .u64 (dig (a) 0 : Int), .int .u64 (dig (a) 1 : Int), .int .u64 (dig (a) 2 : Int), .int .u64 (dig (a) 3 : Int)] 96)) 96 [0, 0, 0, 0] _ rfl
  rw [World.size_alloc] at h
  exact h
 have hBW : Below w.heap.size w W0 := by rw [← hW0]; exact ((Below.refl _ _).alloc (Nat.le_refl _) _).alloc (by simp) _
 clear hW0
 have hR0 := hR.up hBW
 have hrl := hR0.lt
 have h0 := hR0.cell 8 (dig R.up 0 : Int) rfl
 have h1 := hR0.cell 9 (dig R.up 1 : Int) rfl
 have h2 := hR0.cell 10 (dig R.up 2 : Int) rfl
 have h3 := hR0.cell 11 (dig R.up 3 : Int) rfl
 have hx_ := Blk.l4 (a) hA
 have HC := Lib.hid hC
 have HBW := Lib.hid hBW
 have hal := hA.lt
 clear hA hC hBW hR
 refine wp_region_otail 7 (by kernel_rfl) (by kernel_rfl) ?_
 simp only [List.take_succ_cons, List.take_zero, List.drop_succ_cons, List.drop_zero]
 have hov := fun (E : Over W0) o => E.cell (b := rb) o hrl
 have hov2 := fun (E : Over W0) o => E.cell (b := w.heap.size) o hal
 repeat (go_big_quiet_step (first | (go_at_call 115; exact calls_over (mulIn R OK.out rb off a HA.out _ (hR0.up (Over.h _))))))
 refine wpQuiet_nil ?_
 rintro _ ⟨E, rfl⟩
 have HZ := Lib.hid (HC.out.below E.h HC.out.lt)
 have HBB := Lib.hid (below_up HBW.out E.h)
 clear hov hov2
 unfold limbV
 generalize E.w = w3 at *
 obtain ⟨w5, hq5, HB5, HS5⟩ := fillE HBB HZ (by omega) (mont R.m a)
 have hz_ := Blk.z4 HZ.out
 have hzf_ := HZ.out.frozen
 go_wp2_with fail
 clear hz_
 have hg_ := Blk.l4 (mont R.m a) HS5.out
 simp [bodyPost, results, Try.results111, go_sem, hg_]
 exact HB5.out
theorem out_any (R : RingP) (ok : R.Ok) (rb off x : Nat) (hx : x < R.m) (w : World) (hR : RingAt w rb off R) :
  Calls Try.prog 116 #[.pointer (some ⟨rb, off, none⟩), limbV (mont R.m x)] w fun e w' => e = .returned (limbV x) ∧ Below w.heap.size w w' := by
 have HA := Lib.hid hx
 have OK := Lib.hid ok
 clear hx ok
 generalize hM : mont R.m x = M
 have HM := Lib.hid hM
 clear hM
 unfold limbV
 go_enter Try.func116, Try.ntmps116
 go_wp2_with fail
 generalize hW0 : (w.alloc (Obj.cells #[.int .u64 (dig (M) 0 : Int), .int .u64 (dig (M) 1 : Int), .int .u64 (dig (M) 2 : Int), .int .u64 (dig (M) 3 : Int)] 96)).alloc (Obj.cells #[.int .u64 0, .int .u64 0, .int .u64 0, .int .u64 0] 96) = W0 at *
 have hA : Blk W0 w.heap.size 96 (lim (M)) := by rw [← hW0]; exact (Blk.new w _ (lim (M)) _ rfl).alloc _
 have hC : Blk W0 (w.heap.size + 1) 96 [0, 0, 0, 0] := by
  rw [← hW0]
  have h := Blk.new (w.alloc (Obj.cells #[.int .u64 (dig (M) 0 : Int), .int .u64 (dig (M) 1 : Int), .int .u64 (dig (M) 2 : Int), .int .u64 (dig (M) 3 : Int)] 96)) 96 [0, 0, 0, 0] _ rfl
  rw [World.size_alloc] at h
  exact h
 have hBW : Below w.heap.size w W0 := by rw [← hW0]; exact ((Below.refl _ _).alloc (Nat.le_refl _) _).alloc (by simp) _
 clear hW0
 have hR0 := hR.up hBW
 have HC := Lib.hid hC
 have HBW := Lib.hid hBW
 clear hA hC hBW hR
 have h := mulOut R OK.out rb off x HA.out W0 hR0
 rw [HM.out] at h
 refine h.mono ?_
 rintro e w2 ⟨rfl, hb2⟩
 clear h hR0
 unfold limbV
 have HZ := Lib.hid (HC.out.below hb2 HC.out.lt)
 have HBB := Lib.hid (below_up HBW.out hb2)
 clear hb2
 obtain ⟨w5, hq5, HB5, HS5⟩ := fillE HBB HZ (by omega) (x)
 have hz_ := Blk.z4 HZ.out
 have hzf_ := HZ.out.frozen
 go_wp2_with fail
 clear hz_
 have hg_ := Blk.l4 (x) HS5.out
 simp [bodyPost, results, Try.results116, go_sem, hg_]
 exact HB5.out
end Go.Proofs.Ytjmeakfjfpnciaa
namespace Go.Proofs.Ytjmeakfjfpnciaa
open Go.RowKit
def fewTo (m x k : Nat) : List Int := (List.range 64).map fun j => if j < 4 * k then (dig (mont m (x ^ (j / 4))) (j % 4) : Int) else 0
theorem fewTo_at (m x k d r : Nat) (hr : r < 4) (hd : d < k) (hk : k ≤ 16) : (fewTo m x k)[d * 4 + r]? = some (dig (mont m (x ^ d)) r : Int) := by
 simp only [fewTo, List.getElem?_map]
 rw [List.getElem?_eq_getElem (by simp; omega)]
 simp only [List.getElem_range, Option.map_some]
 rw [if_pos (by omega), show (d * 4 + r) / 4 = d by omega, show (d * 4 + r) % 4 = r by omega]
theorem fewTo_length (m x k : Nat) : (fewTo m x k).length = 64 := by simp [fewTo]
theorem fewTo_set (m x k : Nat) : ((((fewTo m x k).set (k * 4) (dig (mont m (x ^ k)) 0 : Int)).set (k * 4 + 1) (dig (mont m (x ^ k)) 1 : Int)).set (k * 4 + 2) (dig (mont m (x ^ k)) 2 : Int)).set (k * 4 + 3) (dig (mont m (x ^ k)) 3 : Int) = fewTo m x (k + 1) := by
 refine List.ext_getElem? fun j => ?_
 simp only [List.getElem?_set, List.length_set, fewTo_length]
 by_cases hj : j < 64
 ·simp only [fewTo, List.getElem?_map, List.getElem?_eq_getElem (show j < (List.range 64).length by simpa using hj), List.getElem_range, Option.map_some]
  by_cases h0 : k * 4 + 3 = j
  ·rw [if_pos h0, if_pos (by omega), if_pos (by omega), show j / 4 = k by omega, show j % 4 = 3 by omega]
  ·rw [if_neg h0]
   by_cases h1 : k * 4 + 2 = j
   ·rw [if_pos h1, if_pos (by omega), if_pos (by omega), show j / 4 = k by omega, show j % 4 = 2 by omega]
   ·rw [if_neg h1]
    by_cases h2 : k * 4 + 1 = j
    ·rw [if_pos h2, if_pos (by omega), if_pos (by omega), show j / 4 = k by omega, show j % 4 = 1 by omega]
    ·rw [if_neg h2]
     by_cases h3 : k * 4 = j
     ·rw [if_pos h3, if_pos (by omega), if_pos (by omega), show j / 4 = k by omega, show j % 4 = 0 by omega]
     ·rw [if_neg h3]
      by_cases h4 : j < 4 * k
      ·rw [if_pos h4, if_pos (by omega)]
      ·rw [if_neg h4, if_neg (by omega)]
 ·have e : ∀ k, (fewTo m x k)[j]? = none := fun k => List.getElem?_eq_none (by rw [fewTo_length]; omega)
  rw [e, e]
  repeat (split <;> first | rfl | (exfalso; omega) | skip)
theorem fewTo_one (m x : Nat) (z : List Int) (hz : z = List.replicate 64 0) : (((z.set 0 (dig (mont m 1) 0 : Int)).set 1 (dig (mont m 1) 1 : Int)).set 2 (dig (mont m 1) 2 : Int)).set 3 (dig (mont m 1) 3 : Int) = fewTo m x 1 := by
 have h := fewTo_set m x 0
 have e0 : fewTo m x 0 = z := by subst hz; rfl
 rw [e0] at h
 simpa using h
theorem pow_digit (n p : Nat) : bits .and .u64 ((dig n (p / 16) : Int) / 2 ^ (4 * (p % 16))) 15 = ((n / 16 ^ p % 16 : Nat) : Int) := by
 have h := bits_mask .u64 64 (by decide) wraps_u64 4 (by decide) (((dig n (p / 16) / 2 ^ (4 * (p % 16)) : Nat)) : Int) (Int.natCast_nonneg _) (by
  have h1 := dig_lt n (p / 16)
  have h2 := Nat.div_le_self (dig n (p / 16)) (2 ^ (4 * (p % 16)))
  have h3 : dig n (p / 16) / 2 ^ (4 * (p % 16)) < 2 ^ 64 := Nat.lt_of_le_of_lt h2 h1
  exact_mod_cast h3)
 have e : ((2 : Int) ^ 4 - 1) = 15 := by decide
 have e2 : ((2 : Int) ^ 4) = 16 := by decide
 rw [e, e2] at h
 rw [show ((dig n (p / 16) : Int) / 2 ^ (4 * (p % 16))) = ((dig n (p / 16) / 2 ^ (4 * (p % 16)) : Nat) : Int) by simp, h]
 rw [← hex_digit]
 rfl
theorem Blk.someC {W : World} {b i : Nat} {t : TypeId} {xs : List Int} (h : Blk W b t xs) (hi : i < xs.length) : ∃ v, W.cell? ⟨b, i, none⟩ = .some v := ⟨_, h.cell (List.getElem?_eq_getElem hi)⟩
theorem Blk.four {W : World} {b o : Nat} {t : TypeId} {xs : List Int} (h : Blk W b t xs) (y0 y1 y2 y3 : Int) : Blk ((((W.setCell ⟨b, o, none⟩ (.int .u64 y0)).setCell ⟨b, o + 1, none⟩ (.int .u64 y1)).setCell ⟨b, o + 2, none⟩ (.int .u64 y2)).setCell ⟨b, o + 3, none⟩ (.int .u64 y3)) b t
  ((((xs.set o y0).set (o + 1) y1).set (o + 2) y2).set (o + 3) y3) := (((h.set _ _).set _ _).set _ _).set _ _
theorem below_four {w W : World} {m b o : Nat} (h : Below m w W) (hb : m ≤ b) (y0 y1 y2 y3 : Value) : Below m w ((((W.setCell ⟨b, o, none⟩ y0).setCell ⟨b, o + 1, none⟩ y1).setCell ⟨b, o + 2, none⟩ y2).setCell ⟨b, o + 3, none⟩ y3) :=
 (((h.setCell (p := ⟨b, o, none⟩) hb _).setCell (p := ⟨b, o + 1, none⟩) hb _).setCell (p := ⟨b, o + 2, none⟩) hb _).setCell (p := ⟨b, o + 3, none⟩) hb _
theorem pow_any (R : RingP) (ok : R.Ok) (rb off x n : Nat) (hn : n < BB ^ 4) (w : World) (hR : RingAt w rb off R) :
  Calls Try.prog 126 #[.pointer (some ⟨rb, off, none⟩), limbV (mont R.m x), limbV n] w fun e w' => e = .returned (limbV (mont R.m (x ^ n))) ∧ Below w.heap.size w w' := by
 have HN0 := Lib.hid hn
 have OK := Lib.hid ok
 clear hn ok
 have h0 := hR.cell 4 (dig R.one 0 : Int) rfl
 have h1 := hR.cell 5 (dig R.one 1 : Int) rfl
 have h2 := hR.cell 6 (dig R.one 2 : Int) rfl
 have h3 := hR.cell 7 (dig R.one 3 : Int) rfl
 have hrl := hR.lt
 have hrl1 : rb < w.heap.size + 1 := by omega
 have hrl2 : rb < w.heap.size + 1 + 1 := by omega
 have hrl3 : rb < w.heap.size + 1 + 1 + 1 := by omega
 have h1' : w.cell? ⟨rb, off + 4 + 1, none⟩ = some (.int .u64 (dig R.one 1 : Int)) := h1
 have h2' : w.cell? ⟨rb, off + 4 + 2, none⟩ = some (.int .u64 (dig R.one 2 : Int)) := h2
 have h3' : w.cell? ⟨rb, off + 4 + 3, none⟩ = some (.int .u64 (dig R.one 3 : Int)) := h3
 unfold limbV
 go_enter Try.func126, Try.ntmps126
 go_wp2_with fail
 generalize hW0 : (((w.alloc (Obj.cells #[.int .u64 (dig (mont R.m x) 0 : Int), .int .u64 (dig (mont R.m x) 1 : Int), .int .u64 (dig (mont R.m x) 2 : Int), .int .u64 (dig (mont R.m x) 3 : Int)] 96)).alloc (Obj.cells #[.int .u64 (dig (n) 0 : Int), .int .u64 (dig (n) 1 : Int), .int .u64 (dig (n) 2 : Int), .int .u64 (dig (n) 3 : Int)] 96)).alloc (Obj.cells #[.int .u64 0, .int .u64 0, .int .u64 0, .int .u64 0] 96)).alloc (Obj.cells #[.int .u64 (dig R.one 0 : Int), .int .u64 (dig R.one 1 : Int), .int .u64 (dig R.one 2 : Int), .int .u64 (dig R.one 3 : Int), .int .u64 0, .int .u64 0, .int .u64 0, .int .u64 0, .int .u64 0, .int .u64 0, .int .u64 0, .int .u64 0, .int .u64 0, .int .u64 0, .int .u64 0, .int .u64 0, .int .u64 0, .int .u64 0, .int .u64 0, .int .u64 0, .int .u64 0, .int .u64 0, .int .u64 0, .int .u64 0, .int .u64 0, .int .u64 0, .int .u64 0, .int .u64 0, .int .u64 0, .int .u64 0, .int .u64 0, .int .u64 0, .int .u64 0, .int .u64 0, .int .u64 0, .int .u64 0, .int .u64 0, .int .u64 0, .int .u64 0, .int .u64 0, .int .u64 0, .int .u64 0, .int .u64 0, .int .u64 0, .int .u64 0, .int .u64 0, .int .u64 0, .int .u64 0, .int .u64 0, .int .u64 0, .int .u64 0, .int .u64 0, .int .u64 0, .int .u64 0, .int .u64 0, .int .u64 0, .int .u64 0, .int .u64 0, .int .u64 0, .int .u64 0, .int .u64 0, .int .u64 0, .int .u64 0, .int .u64 0] 237) = W0 at *
 have hA : Blk W0 w.heap.size 96 (lim (mont R.m x)) := by rw [← hW0]; exact (((Blk.new w _ (lim (mont R.m x)) _ rfl).alloc _).alloc _).alloc _
 have hB : Blk W0 (w.heap.size + 1) 96 (lim n) := by
  rw [← hW0]
  have h := ((Blk.new (w.alloc (Obj.cells #[.int .u64 (dig (mont R.m x) 0 : Int), .int .u64 (dig (mont R.m x) 1 : Int), .int .u64 (dig (mont R.m x) 2 : Int), .int .u64 (dig (mont R.m x) 3 : Int)] 96)) 96 (lim n) _ rfl).alloc (Obj.cells #[.int .u64 0, .int .u64 0, .int .u64 0, .int .u64 0] 96)).alloc (Obj.cells #[.int .u64 (dig R.one 0 : Int), .int .u64 (dig R.one 1 : Int), .int .u64 (dig R.one 2 : Int), .int .u64 (dig R.one 3 : Int), .int .u64 0, .int .u64 0, .int .u64 0, .int .u64 0, .int .u64 0, .int .u64 0, .int .u64 0, .int .u64 0, .int .u64 0, .int .u64 0, .int .u64 0, .int .u64 0, .int .u64 0, .int .u64 0, .int .u64 0, .int .u64 0, .int .u64 0, .int .u64 0, .int .u64 0, .int .u64 0, .int .u64 0, .int .u64 0, .int .u64 0, .int .u64 0, .int .u64 0, .int .u64 0, .int .u64 0, .int .u64 0, .int .u64 0, .int .u64 0, .int .u64 0, .int .u64 0, .int .u64 0, .int .u64 0, .int .u64 0, .int .u64 0, .int .u64 0, .int .u64 0, .int .u64 0, .int .u64 0, .int .u64 0, .int .u64 0, .int .u64 0, .int .u64 0, .int .u64 0, .int .u64 0, .int .u64 0, .int .u64 0, .int .u64 0, .int .u64 0, .int .u64 0, .int .u64 0, .int .u64 0, .int .u64 0, .int .u64 0, .int .u64 0, .int .u64 0, .int .u64 0, .int .u64 0, .int .u64 0] 237)
  rwa [World.size_alloc] at h
 have hC : Blk W0 (w.heap.size + 2) 96 [0, 0, 0, 0] := by
  rw [← hW0]
  have h := (Blk.new ((w.alloc (Obj.cells #[.int .u64 (dig (mont R.m x) 0 : Int), .int .u64 (dig (mont R.m x) 1 : Int), .int .u64 (dig (mont R.m x) 2 : Int), .int .u64 (dig (mont R.m x) 3 : Int)] 96)).alloc (Obj.cells #[.int .u64 (dig (n) 0 : Int), .int .u64 (dig (n) 1 : Int), .int .u64 (dig (n) 2 : Int), .int .u64 (dig (n) 3 : Int)] 96)) 96 [0, 0, 0, 0] _ rfl).alloc (Obj.cells #[.int .u64 (dig R.one 0 : Int), .int .u64 (dig R.one 1 : Int), .int .u64 (dig R.one 2 : Int), .int .u64 (dig R.one 3 : Int), .int .u64 0, .int .u64 0, .int .u64 0, .int .u64 0, .int .u64 0, .int .u64 0, .int .u64 0, .int .u64 0, .int .u64 0, .int .u64 0, .int .u64 0, .int .u64 0, .int .u64 0, .int .u64 0, .int .u64 0, .int .u64 0, .int .u64 0, .int .u64 0, .int .u64 0, .int .u64 0, .int .u64 0, .int .u64 0, .int .u64 0, .int .u64 0, .int .u64 0, .int .u64 0, .int .u64 0, .int .u64 0, .int .u64 0, .int .u64 0, .int .u64 0, .int .u64 0, .int .u64 0, .int .u64 0, .int .u64 0, .int .u64 0, .int .u64 0, .int .u64 0, .int .u64 0, .int .u64 0, .int .u64 0, .int .u64 0, .int .u64 0, .int .u64 0, .int .u64 0, .int .u64 0, .int .u64 0, .int .u64 0, .int .u64 0, .int .u64 0, .int .u64 0, .int .u64 0, .int .u64 0, .int .u64 0, .int .u64 0, .int .u64 0, .int .u64 0, .int .u64 0, .int .u64 0, .int .u64 0] 237)
  rw [World.size_alloc, World.size_alloc] at h
  exact h
 have hT : Blk W0 (w.heap.size + 3) 237 (fewTo R.m x 1) := by
  rw [← hW0]
  have h := Blk.new (((w.alloc (Obj.cells #[.int .u64 (dig (mont R.m x) 0 : Int), .int .u64 (dig (mont R.m x) 1 : Int), .int .u64 (dig (mont R.m x) 2 : Int), .int .u64 (dig (mont R.m x) 3 : Int)] 96)).alloc (Obj.cells #[.int .u64 (dig (n) 0 : Int), .int .u64 (dig (n) 1 : Int), .int .u64 (dig (n) 2 : Int), .int .u64 (dig (n) 3 : Int)] 96)).alloc (Obj.cells #[.int .u64 0, .int .u64 0, .int .u64 0, .int .u64 0] 96)) 237 (fewTo R.m x 1) #[.int .u64 (dig R.one 0 : Int), .int .u64 (dig R.one 1 : Int), .int .u64 (dig R.one 2 : Int), .int .u64 (dig R.one 3 : Int), .int .u64 0, .int .u64 0, .int .u64 0, .int .u64 0, .int .u64 0, .int .u64 0, .int .u64 0, .int .u64 0, .int .u64 0, .int .u64 0, .int .u64 0, .int .u64 0, .int .u64 0, .int .u64 0, .int .u64 0, .int .u64 0, .int .u64 0, .int .u64 0, .int .u64 0, .int .u64 0, .int .u64 0, .int .u64 0, .int .u64 0, .int .u64 0, .int .u64 0, .int .u64 0, .int .u64 0, .int .u64 0, .int .u64 0, .int .u64 0, .int .u64 0, .int .u64 0, .int .u64 0, .int .u64 0, .int .u64 0, .int .u64 0, .int .u64 0, .int .u64 0, .int .u64 0, .int .u64 0, .int .u64 0, .int .u64 0, .int .u64 0, .int .u64 0, .int .u64 0, .int .u64 0, .int .u64 0, .int .u64 0, .int .u64 0, .int .u64 0, .int .u64 0, .int .u64 0, .int .u64 0, .int .u64 0, .int .u64 0, .int .u64 0, .int .u64 0, .int .u64 0, .int .u64 0, .int .u64 0] (by
   rw [← fewTo_one R.m x _ rfl, OK.out.one']
   rfl)
  rw [World.size_alloc, World.size_alloc, World.size_alloc] at h
  exact h
 have hBW : Below w.heap.size w W0 := by rw [← hW0]; exact ((((Below.refl _ _).alloc (Nat.le_refl _) _).alloc (by simp) _).alloc (by simp; omega) _).alloc (by simp; omega) _
 clear hW0 h0 h1 h2 h3 h1' h2' h3' hrl1 hrl2 hrl3
 have HR0 := Lib.hid (hR.up hBW)
 have HA := Lib.hid hA
 have HB := Lib.hid hB
 have HC := Lib.hid hC
 have HT := Lib.hid hT
 have HBW := Lib.hid hBW
 have hsz0 := hT.lt
 clear hR hA hB hC hT hBW
 go_loopw [8] (fun i wr => ∃ k : Nat, k ≤ 15 ∧ i = .int .i64 ((k : Int) + 1) ∧ Hid (Blk wr (w.heap.size + 3) 237 (fewTo R.m x (k + 1))) ∧ Hid (Below (w.heap.size + 3) W0 wr)) (fun i _ => 16 - (intOf i).toNat)
 case atStart => exact ⟨0, by omega, rfl, HT.out, Below.refl _ _⟩
 case round =>
  clear HT
  obtain ⟨k, hk, rfl, HT, HN⟩ := hrel
  have hszr := HN.out.size
  have htl := HT.out.lt
  have HR1 := Lib.hid (HR0.out.below HN.out (by omega))
  have hA1 := HA.out.below HN.out (by omega)
  have hx_ := Blk.l4 (mont R.m x) hA1
  clear hA1
  have hrl1 := HR1.out.lt
  by_cases hkl : k < 15
  ·have hf0 := HT.out.cell (i := k * 4) (fewTo_at R.m x (k + 1) k 0 (by omega) (by omega) (by omega))
   have hf1 := HT.out.cell (fewTo_at R.m x (k + 1) k 1 (by omega) (by omega) (by omega))
   have hf2 := HT.out.cell (fewTo_at R.m x (k + 1) k 2 (by omega) (by omega) (by omega))
   have hf3 := HT.out.cell (fewTo_at R.m x (k + 1) k 3 (by omega) (by omega) (by omega))
   go_wp2_with fail
   refine wp_region_otail 9 (by kernel_rfl) (by kernel_rfl) ?_
   simp only [List.take_succ_cons, List.take_zero, List.drop_succ_cons, List.drop_zero]
   have hov := fun (E : Over wr) o => E.cell (b := w.heap.size) o (by omega)
   have hov2 := fun (E : Over wr) o => E.cell (b := w.heap.size + 3) o htl
   repeat (go_big_quiet_step (first | (go_at_call 115; exact calls_over (mulM R OK.out rb off (x ^ k) x _ (HR1.out.up (Over.h _))))))
   refine wpQuiet_nil ?_
   rintro _ ⟨E, rfl⟩
   clear hov hov2 hf0 hf1 hf2 hf3
   unfold limbV
   have HTE := Lib.hid (HT.out.below E.h HT.out.lt)
   have HNE := Lib.hid (HN.out.trans (E.h.mono (by omega)))
   generalize E.w = w3 at *
   have hl := fewTo_length R.m x (k + 1)
   obtain ⟨v0, hg0⟩ := HTE.out.someC (i := (k + 1) * 4) (by omega)
   obtain ⟨v1, hg1⟩ := HTE.out.someC (i := (k + 1) * 4 + 1) (by omega)
   obtain ⟨v2, hg2⟩ := HTE.out.someC (i := (k + 1) * 4 + 2) (by omega)
   obtain ⟨v3, hg3⟩ := HTE.out.someC (i := (k + 1) * 4 + 3) (by omega)
   have hfz := HTE.out.frozen
   have hset := HTE.out.four (o := (k + 1) * 4) (dig (mont R.m (x ^ (k + 1))) 0 : Int) (dig (mont R.m (x ^ (k + 1))) 1 : Int) (dig (mont R.m (x ^ (k + 1))) 2 : Int) (dig (mont R.m (x ^ (k + 1))) 3 : Int)
   rw [fewTo_set] at hset
   have HS := Lib.hid hset
   clear hset hl
   rw [← Nat.pow_succ]
   go_wp2_with fail
   go_roundw
   case rel => exact ⟨k + 1, by omega, by go_num, HS.out, below_four HNE.out (Nat.le_refl _) _ _ _ _⟩
   case measure => first | (simp [intOf]; done) | (simp [intOf]; omega)
  ·have hk15 : k = 15 := by omega
   subst hk15
   rw [show ((15 : Nat) : Int) + 1 = 16 from rfl]
   obtain ⟨W1, rfl⟩ : ∃ W1 : World, W1 = wr := ⟨_, rfl⟩
   have h0 := HR1.out.cell 4 (dig R.one 0 : Int) rfl
   have h1 : W1.cell? ⟨rb, off + 4 + 1, none⟩ = some (.int .u64 (dig R.one 1 : Int)) := HR1.out.cell 5 (dig R.one 1 : Int) rfl
   have h2 : W1.cell? ⟨rb, off + 4 + 2, none⟩ = some (.int .u64 (dig R.one 2 : Int)) := HR1.out.cell 6 (dig R.one 2 : Int) rfl
   have h3 : W1.cell? ⟨rb, off + 4 + 3, none⟩ = some (.int .u64 (dig R.one 3 : Int)) := HR1.out.cell 7 (dig R.one 3 : Int) rfl
   have HW : Hid (Blk (W1.alloc (Obj.cells #[.int .u64 (dig (R.one) 0 : Int), .int .u64 (dig (R.one) 1 : Int), .int .u64 (dig (R.one) 2 : Int), .int .u64 (dig (R.one) 3 : Int)] 96)) W1.heap.size 96 (lim (mont R.m (x ^ (n / 16 ^ 64))))) := by
    have e : n / 16 ^ 64 = 0 := Nat.div_eq_of_lt HN0.out
    show Blk _ _ _ _
    rw [e, Nat.pow_zero, ← OK.out.one']
    exact Blk.new W1 _ _ _ rfl
   have HNE0 := Lib.hid HN.out
   have HBW' : Hid (Below (w.heap.size + 3) W0 W1) := HN.out
   have HWN := Lib.hid ((Below.refl W1.heap.size W1).alloc (Nat.le_refl _) (Obj.cells #[.int .u64 (dig (R.one) 0 : Int), .int .u64 (dig (R.one) 1 : Int), .int .u64 (dig (R.one) 2 : Int), .int .u64 (dig (R.one) 3 : Int)] 96))
   clear hx_
   have hob := HW.out.lt
   have hzo := HNE0.out.size
   go_wp2_with fail
   generalize W1.alloc (Obj.cells #[.int .u64 (dig (R.one) 0 : Int), .int .u64 (dig (R.one) 1 : Int), .int .u64 (dig (R.one) 2 : Int), .int .u64 (dig (R.one) 3 : Int)] 96) = wo at *
   clear h0 h1 h2 h3
   go_loopw [10, 11, 12, 40] (fun c i _ _ w2 => ∃ j : Nat, j ≤ 64 ∧ i = .int .i64 ((j : Int) - 1) ∧ c = .bool (decide (0 < n / 16 ^ j)) ∧ Hid (Blk w2 W1.heap.size 96 (lim (mont R.m (x ^ (n / 16 ^ j))))) ∧ Hid (Below W1.heap.size W1 w2)) (fun _ i _ _ _ => ((intOf i) + 1).toNat)
   case atStart => exact ⟨64, by omega, rfl, by rw [show n / 16 ^ 64 = 0 from Nat.div_eq_of_lt HN0.out]; rfl, HW.out, HWN.out⟩
   case round =>
    clear HW HWN hob
    obtain ⟨j, hj, hi, hc, HW, HWN⟩ := hrel
    have hob := HW.out.lt
    have hzw := HWN.out.size
    rcases Nat.eq_zero_or_pos j with rfl | hjp
    ·subst hi
     subst hc
     have HO : Hid (Blk wr W1.heap.size 96 (lim (mont R.m (x ^ n)))) := by
      have h := HW.out
      rwa [Nat.pow_zero, Nat.div_one] at h
     clear HW
     have ho_ := Blk.l4 (mont R.m (x ^ n)) HO.out
     have HZ := Lib.hid ((HC.out.below HBW'.out (by omega)).below HWN.out (by omega))
     have HBB := Lib.hid ((HBW.out.trans (HBW'.out.mono (by omega))).trans (HWN.out.mono (by omega)))
     obtain ⟨w5, hq5, HB5, HS5⟩ := fillE HBB HZ (by omega) (mont R.m (x ^ n))
     have hz_ := Blk.z4 HZ.out
     have hzf_ := HZ.out.frozen
     go_wp2_with fail
     clear hz_
     have hg_ := Blk.l4 (mont R.m (x ^ n)) HS5.out
     simp [bodyPost, results, Try.results126, go_sem, hg_]
     exact HB5.out
    ·obtain ⟨p, rfl⟩ : ∃ p, j = p + 1 := ⟨j - 1, by omega⟩
     have ei : ((p + 1 : Nat) : Int) - 1 = (p : Int) := by omega
     rw [ei] at hi
     subst hi
     clear ei hjp
     have HSTEP : Hid (n / 16 ^ p = 16 * (n / 16 ^ (p + 1)) + n / 16 ^ p % 16) := by
      show _ = _
      rw [Nat.pow_succ, ← Nat.div_div_eq_div_mul]; omega
     by_cases hbeg : 0 < n / 16 ^ (p + 1)
     ·rw [decide_eq_true hbeg] at hc
      subst hc
      generalize n / 16 ^ (p + 1) = N at *
      obtain ⟨W2, rfl⟩ : ∃ W2 : World, W2 = wr := ⟨_, rfl⟩
      go_wp2_with fail
      go_loopw [40] (fun k w3 => ∃ q : Nat, q ≤ 4 ∧ k = .int .i64 q ∧ Hid (Blk w3 W1.heap.size 96 (lim (mont R.m (x ^ (2 ^ q * N))))) ∧ Hid (Below W1.heap.size W1 w3)) (fun k _ => 4 - (intOf k).toNat)
      case atStart => exact ⟨0, by omega, rfl, by rw [Nat.pow_zero, Nat.one_mul]; exact HW.out, HWN.out⟩
      case round =>
       clear HW HWN hob hzw
       obtain ⟨q, hq, rfl, HO, HWN⟩ := hrel
       have hob := HO.out.lt
       have hzw := HWN.out.size
       by_cases hql : q < 4
       ·have ho_ := Blk.l4 (mont R.m (x ^ (2 ^ q * N))) HO.out
        have HR3 := Lib.hid (HR1.out.below HWN.out (by omega))
        go_wp2_with fail
        refine (mulM R OK.out rb off (x ^ (2 ^ q * N)) (x ^ (2 ^ q * N)) _ HR3.out).mono ?_
        rintro e w5 ⟨rfl, hb5⟩
        clear ho_
        have HOE := Lib.hid (HO.out.below hb5 HO.out.lt)
        have HNE := Lib.hid (HWN.out.trans (hb5.mono (by omega)))
        clear hb5
        rw [← Nat.pow_add, ← Nat.two_mul, ← Nat.mul_assoc, ← Nat.pow_succ']
        unfold limbV
        have ho_ := Blk.l4 (mont R.m (x ^ (2 ^ q * N))) HOE.out
        have hof_ := HOE.out.frozen
        have HS := Lib.hid (HOE.out.fill rfl (mont R.m (x ^ (2 ^ (q + 1) * N))))
        have HSB := Lib.hid (below_fill (n := mont R.m (x ^ (2 ^ (q + 1) * N))) (b := W1.heap.size) HNE.out (Nat.le_refl _))
        go_wp2_with fail
        go_roundw
        case rel => exact ⟨q + 1, by omega, by go_num, HS.out, HSB.out⟩
        case measure => first | (simp [intOf]; done) | (simp [intOf]; omega)
       ·have hq4 : q = 4 := by omega
        subst hq4
        have HO' : Hid (Blk wr W1.heap.size 96 (lim (mont R.m (x ^ (16 * N))))) := HO.out
        clear HO
        have HO := HO'
        clear HO'
        have HX4 := Lib.hid ((HT.out.below HWN.out (by omega)))
        have HR4 := Lib.hid (HR1.out.below HWN.out (by omega))
        have hn1 := ((HB.out.below (HBW'.out) (by omega)).below HWN.out (by omega)).cell (lim_at n (p / 16) (by omega))
        have hdig := pow_digit n p
        have hob4 := HO.out.lt
        have hfl4 := HX4.out.lt
        have hDlt : n / 16 ^ p % 16 < 16 := Nat.mod_lt _ (by omega)
        generalize n / 16 ^ p % 16 = D at *
        by_cases hD : 0 < D
        ·have hf0 := HX4.out.cell (i := D * 4) (fewTo_at R.m x 16 D 0 (by omega) hDlt (by omega))
         have hf1 := HX4.out.cell (fewTo_at R.m x 16 D 1 (by omega) hDlt (by omega))
         have hf2 := HX4.out.cell (fewTo_at R.m x 16 D 2 (by omega) hDlt (by omega))
         have hf3 := HX4.out.cell (fewTo_at R.m x 16 D 3 (by omega) hDlt (by omega))
         have ho_ := Blk.l4 (mont R.m (x ^ (16 * N))) HO.out
         go_wp2_with fail
         refine wp_region_otail 6 (by kernel_rfl) (by kernel_rfl) ?_
         simp only [List.take_succ_cons, List.take_zero, List.drop_succ_cons, List.drop_zero]
         have hov := fun (E : Over wr) o => E.cell (b := W1.heap.size) o hob4
         have hov2 := fun (E : Over wr) o => E.cell (b := w.heap.size + 3) o hfl4
         repeat (go_big_quiet_step (first | (go_at_call 115; exact calls_over (mulM R OK.out rb off (x ^ (16 * N)) (x ^ D) _ (HR4.out.up (Over.h _))))))
         refine wpQuiet_nil ?_
         rintro _ ⟨E, rfl⟩
         clear hov hov2 hf0 hf1 hf2 hf3 ho_ hn1 hdig
         unfold limbV
         have HOE := Lib.hid (HO.out.below E.h HO.out.lt)
         have HNE := Lib.hid (HWN.out.trans (E.h.mono (by omega)))
         generalize E.w = w5 at *
         rw [← Nat.pow_add]
         have ho_ := Blk.l4 (mont R.m (x ^ (16 * N))) HOE.out
         have hof_ := HOE.out.frozen
         have HS := Lib.hid (HOE.out.fill rfl (mont R.m (x ^ (16 * N + D))))
         have HSB := Lib.hid (below_fill (n := mont R.m (x ^ (16 * N + D))) (b := W1.heap.size) HNE.out (Nat.le_refl _))
         go_wp2_with fail
         go_roundw
         case rel => exact ⟨p, by omega, rfl, by rw [HSTEP.out, decide_eq_true (by omega)], by rw [HSTEP.out]; exact HS.out, HSB.out⟩
         case measure => first | (simp [intOf]; done) | (simp [intOf]; omega)
        ·have hD0 : D = 0 := by omega
         subst hD0
         go_wp2_with fail
         go_roundw
         case rel => exact ⟨p, by omega, rfl, by rw [HSTEP.out]; rw [decide_eq_true (by omega)], by rw [HSTEP.out]; exact HO.out, HWN.out⟩
         case measure => first | (simp [intOf]; done) | (simp [intOf]; omega)
     ·rw [decide_eq_false hbeg] at hc
      subst hc
      have hN : n / 16 ^ (p + 1) = 0 := Nat.eq_zero_of_not_pos hbeg
      rw [hN] at HW HSTEP
      obtain ⟨N, hN0⟩ : ∃ N, N = 0 := ⟨0, rfl⟩
      have HO : Hid (Blk wr W1.heap.size 96 (lim (mont R.m (x ^ (16 * N))))) := by rw [hN0]; exact HW.out
      have HSTEP' : Hid (n / 16 ^ p = 16 * N + n / 16 ^ p % 16) := by show _ = _; rw [hN0]; exact HSTEP.out
      clear HSTEP HW
      have HSTEP := HSTEP'
      clear HSTEP'
      have hN1 : ¬ 0 < N := by omega
      have HN0' := Lib.hid hN0
      clear hN hN0 hbeg
      have HX4 := Lib.hid ((HT.out.below HWN.out (by omega)))
      have HR4 := Lib.hid (HR1.out.below HWN.out (by omega))
      have hn1 := ((HB.out.below (HBW'.out) (by omega)).below HWN.out (by omega)).cell (lim_at n (p / 16) (by omega))
      have hdig := pow_digit n p
      have hob4 := HO.out.lt
      have hfl4 := HX4.out.lt
      have hDlt : n / 16 ^ p % 16 < 16 := Nat.mod_lt _ (by omega)
      generalize n / 16 ^ p % 16 = D at *
      by_cases hD : 0 < D
      ·have hf0 := HX4.out.cell (i := D * 4) (fewTo_at R.m x 16 D 0 (by omega) hDlt (by omega))
       have hf1 := HX4.out.cell (fewTo_at R.m x 16 D 1 (by omega) hDlt (by omega))
       have hf2 := HX4.out.cell (fewTo_at R.m x 16 D 2 (by omega) hDlt (by omega))
       have hf3 := HX4.out.cell (fewTo_at R.m x 16 D 3 (by omega) hDlt (by omega))
       have ho_ := Blk.l4 (mont R.m (x ^ (16 * N))) HO.out
       go_wp2_with fail
       refine wp_region_otail 6 (by kernel_rfl) (by kernel_rfl) ?_
       simp only [List.take_succ_cons, List.take_zero, List.drop_succ_cons, List.drop_zero]
       have hov := fun (E : Over wr) o => E.cell (b := W1.heap.size) o hob4
       have hov2 := fun (E : Over wr) o => E.cell (b := w.heap.size + 3) o hfl4
       repeat (go_big_quiet_step (first | (go_at_call 115; exact calls_over (mulM R OK.out rb off (x ^ (16 * N)) (x ^ D) _ (HR4.out.up (Over.h _))))))
       refine wpQuiet_nil ?_
       rintro _ ⟨E, rfl⟩
       clear hov hov2 hf0 hf1 hf2 hf3 ho_ hn1 hdig
       unfold limbV
       have HOE := Lib.hid (HO.out.below E.h HO.out.lt)
       have HNE := Lib.hid (HWN.out.trans (E.h.mono (by omega)))
       generalize E.w = w5 at *
       rw [← Nat.pow_add]
       have ho_ := Blk.l4 (mont R.m (x ^ (16 * N))) HOE.out
       have hof_ := HOE.out.frozen
       have HS := Lib.hid (HOE.out.fill rfl (mont R.m (x ^ (16 * N + D))))
       have HSB := Lib.hid (below_fill (n := mont R.m (x ^ (16 * N + D))) (b := W1.heap.size) HNE.out (Nat.le_refl _))
       go_wp2_with fail
       go_roundw
       case rel => exact ⟨p, by omega, rfl, by rw [HSTEP.out, decide_eq_true (by omega)], by rw [HSTEP.out]; exact HS.out, HSB.out⟩
       case measure => first | (simp [intOf]; done) | (simp [intOf]; omega)
      ·have hD0 : D = 0 := by omega
       subst hD0
       go_wp2_with fail
       go_roundw
       case rel => exact ⟨p, by omega, rfl, by rw [HSTEP.out]; rw [decide_eq_false (by have := HN0'.out; omega)], by rw [HSTEP.out]; exact HO.out, HWN.out⟩
       case measure => first | (simp [intOf]; done) | (simp [intOf]; omega)
end Go.Proofs.Ytjmeakfjfpnciaa
namespace Go.Proofs.Ytjmeakfjfpnciaa
open Go.RowKit
theorem below_drewN {n : Nat} {w W : World} (h : Below n w W) (k : Nat) : Below n w (W.drewN k) := ⟨h.os, h.tape, h.output, h.size, h.block⟩
def cmpI (a b : Nat) : Int := if a < b then -1 else if b < a then 1 else 0
theorem div_split (a p : Nat) : a / BB ^ p = BB * (a / BB ^ (p + 1)) + dig a p := by
 unfold dig
 rw [Nat.pow_succ, ← Nat.div_div_eq_div_mul]
 exact (Nat.div_add_mod _ _).symm
theorem lt_of_dig (a b p : Nat) (h : a / BB ^ (p + 1) = b / BB ^ (p + 1)) (hd : dig a p < dig b p) : a < b := by
 rcases Nat.lt_or_ge a b with h1 | h1
 ·exact h1
 ·have := Nat.div_le_div_right (c := BB ^ p) h1
  rw [div_split a p, div_split b p, h] at this
  omega
theorem eq_of_dig (a b p : Nat) (h : a / BB ^ (p + 1) = b / BB ^ (p + 1)) (hd : dig a p = dig b p) : a / BB ^ p = b / BB ^ p := by
 rw [div_split a p, div_split b p, h, hd]
theorem cmp_any (a b : Nat) (ha : a < BB ^ 4) (hb : b < BB ^ 4) (w : World) : Calls Try.prog 110 #[limbV a, limbV b] w fun e w' => e = .returned (.int .i64 (cmpI a b)) ∧ Below w.heap.size w w' := by
 have HLA := Lib.hid ha
 have HLB := Lib.hid hb
 clear ha hb
 unfold limbV
 go_enter Try.func110, Try.ntmps110
 go_wp2_with fail
 generalize hW0 : (w.alloc (Obj.cells #[.int .u64 (dig (a) 0 : Int), .int .u64 (dig (a) 1 : Int), .int .u64 (dig (a) 2 : Int), .int .u64 (dig (a) 3 : Int)] 96)).alloc (Obj.cells #[.int .u64 (dig (b) 0 : Int), .int .u64 (dig (b) 1 : Int), .int .u64 (dig (b) 2 : Int), .int .u64 (dig (b) 3 : Int)] 96) = W0 at *
 have hA : Blk W0 w.heap.size 96 (lim a) := by rw [← hW0]; exact (Blk.new w _ (lim a) _ rfl).alloc _
 have hB : Blk W0 (w.heap.size + 1) 96 (lim b) := by
  rw [← hW0]
  have h := Blk.new (w.alloc (Obj.cells #[.int .u64 (dig (a) 0 : Int), .int .u64 (dig (a) 1 : Int), .int .u64 (dig (a) 2 : Int), .int .u64 (dig (a) 3 : Int)] 96)) 96 (lim b) _ rfl
  rwa [World.size_alloc] at h
 have hBW : Below w.heap.size w W0 := by rw [← hW0]; exact ((Below.refl _ _).alloc (Nat.le_refl _) _).alloc (by simp) _
 have HA := Lib.hid hA
 have HB := Lib.hid hB
 have HBW := Lib.hid hBW
 have hlb := hB.lt
 clear hW0 hA hB hBW
 go_loopw [5] (fun i wr => ∃ j : Nat, j ≤ 4 ∧ i = .int .i64 ((j : Int) - 1) ∧ Hid (a / BB ^ j = b / BB ^ j) ∧ Hid (Below W0.heap.size W0 wr)) (fun i _ => (intOf i + 1).toNat)
 case atStart => exact ⟨4, Nat.le_refl _, rfl, by show _ = _; rw [Nat.div_eq_of_lt HLA.out, Nat.div_eq_of_lt HLB.out], Below.refl _ _⟩
 case round =>
  obtain ⟨j, hj, hi, HE, HN⟩ := hrel
  rcases Nat.eq_zero_or_pos j with rfl | hjp
  ·subst hi
   go_wp2_with fail
   go_ret
   have h := HE.out
   rw [Nat.pow_zero, Nat.div_one, Nat.div_one] at h
   exact ⟨ret_int (by unfold cmpI; rw [if_neg (by omega), if_neg (by omega)]), HBW.out.trans (HN.out.mono (by omega))⟩
  ·obtain ⟨p, rfl⟩ : ∃ p, j = p + 1 := ⟨j - 1, by omega⟩
   have ei : ((p + 1 : Nat) : Int) - 1 = (p : Int) := by omega
   rw [ei] at hi
   subst hi
   clear ei hjp
   have hxa := (HA.out.below HN.out (by omega)).cell (lim_at a p (by omega))
   have hxb := (HB.out.below HN.out (by omega)).cell (lim_at b p (by omega))
   have HBB := Lib.hid (HBW.out.trans (HN.out.mono (by omega)))
   rcases Nat.lt_trichotomy (dig a p) (dig b p) with hd | hd | hd
   ·have hcmp : Hid (a < b) := lt_of_dig a b p HE.out hd
    go_wp2_with fail
    go_quiet (fail)
    go_wp2_with fail
    go_ret
    exact ⟨ret_int (by unfold cmpI; rw [if_pos hcmp.out]), below_drewN HBB.out _⟩
   ·have HE2 := Lib.hid (eq_of_dig a b p HE.out hd)
    have hd1 : ¬ dig a p < dig b p := by omega
    have hd2 : ¬ dig b p < dig a p := by omega
    clear hd
    go_wp2_with fail
    go_quiet (fail)
    go_wp2_with fail
    go_quiet (fail)
    go_wp2_with fail
    go_roundw
    case rel => exact ⟨p, by omega, rfl, HE2.out, below_drewN HN.out _⟩
    case measure => first | (simp [intOf]; done) | (simp [intOf]; omega)
   ·have hcmp : Hid (b < a) := lt_of_dig b a p HE.out.symm hd
    have hd1 : ¬ dig a p < dig b p := by omega
    go_wp2_with fail
    go_quiet (fail)
    go_wp2_with fail
    go_quiet (fail)
    go_wp2_with fail
    go_ret
    exact ⟨ret_int (by have := hcmp.out; unfold cmpI; rw [if_neg (by omega), if_pos this]), below_drewN (below_drewN HBB.out _) _⟩
end Go.Proofs.Ytjmeakfjfpnciaa
namespace Go.Proofs.Ytjmeakfjfpnciaa
open Go.RowKit
theorem infoByte : (Try.prog.info? 5).map (fun i => (i.zero, i.size, i.bytes)) = some (some (.int .u8 0), 1, 1) := by kernel_rfl
def byteAt (a k : Nat) : Nat := a / 256 ^ k % 256
def textL (a size k : Nat) : List Int := (List.range size).map fun p => if size - 1 - p < k then (byteAt a (size - 1 - p) : Int) else 0
def textS (a size : Nat) : ByteArray := strOfNums (textL a size size)
theorem textL_length (a size k : Nat) : (textL a size k).length = size := by simp [textL]
theorem textL_zero (a size : Nat) : textL a size 0 = List.replicate size 0 := by
 simp only [textL, Nat.not_lt_zero, if_false]
 refine List.ext_getElem (by simp) (fun i h1 h2 => by simp)
theorem textL_set (a size k : Nat) (hk : k < size) : (textL a size k).set (size - 1 - k) (byteAt a k : Int) = textL a size (k + 1) := by
 refine List.ext_getElem (by simp [textL]) (fun i h1 h2 => ?_)
 rw [textL_length] at h2
 rw [List.getElem_set]
 simp only [textL, List.getElem_map, List.getElem_range]
 by_cases h : size - 1 - k = i
 ·rw [if_pos h, if_pos (by omega), show size - 1 - i = k by omega]
 ·rw [if_neg h]
  by_cases h3 : size - 1 - i < k
  ·rw [if_pos h3, if_pos (by omega)]
  ·rw [if_neg h3, if_neg (by omega)]
theorem byte_digit (n i : Nat) : n / BB ^ (i / 8) % BB / 2 ^ (8 * (i % 8)) % 256 = n / 256 ^ i % 256 := by
 have hb : BB = 256 ^ 8 := rfl
 have h2 : (2 : Nat) ^ (8 * (i % 8)) = 256 ^ (i % 8) := by rw [Nat.pow_mul]
 rw [h2, hb, ← Nat.pow_mul]
 have hlt := Nat.mod_lt i (show 8 > 0 by omega)
 have e : (256 : Nat) ^ 8 = 256 ^ (i % 8) * (256 * 256 ^ (7 - i % 8)) := by
  rw [← Nat.pow_succ', ← Nat.pow_add]; congr 1; omega
 rw [e, Nat.mod_mul_right_div_self, Nat.mod_mul_right_mod, Nat.div_div_eq_div_mul, ← Nat.pow_add]
 congr 3
 omega
theorem bytes_made (n : Nat) : (madeCells #[Value.int .u8 0] n).toList = (List.replicate n (0 : Int)).map (Value.int .u8) := by
 refine List.ext_getElem (by simp [madeCells]) (fun i h1 h2 => by simp [madeCells, Nat.mod_one])
theorem text_any (a size : Nat) (hs : size ≤ 32) (w : World) : Calls Try.prog 117 #[limbV a, .int .i64 size] w fun e w' => e = .returned (.string (textS a size)) ∧ Below w.heap.size w w' := by
 obtain ⟨i0, hi, hz0, hz1, hz2⟩ := info_parts infoByte
 unfold limbV
 go_enter Try.func117, Try.ntmps117
 go_wp2_with (at_make; refine wpList_make_full _ rfl _ _ 155 rfl 0 5 i0 (.int .u8 0) 1 Try.underlying155 hi hz0 hz1 _ _ _ _ size rfl rfl ?c1 ?c2 ?c3 ?c4 ?c5 ?_)
 case c1 => rfl
 case c2 => rfl
 case c3 => rw [hz2]; omega
 case c4 => unfold maxLen; omega
 case c5 => omega
 intro w1 hown hgrow
 have hA : Blk (w.alloc (Obj.cells #[.int .u64 (dig (a) 0 : Int), .int .u64 (dig (a) 1 : Int), .int .u64 (dig (a) 2 : Int), .int .u64 (dig (a) 3 : Int)] 96)) w.heap.size 96 (lim a) := Blk.new w _ (lim a) _ rfl
 have hb1 : Below (w.heap.size + 1) (w.alloc (Obj.cells #[.int .u64 (dig (a) 0 : Int), .int .u64 (dig (a) 1 : Int), .int .u64 (dig (a) 2 : Int), .int .u64 (dig (a) 3 : Int)] 96)) w1 := (Below.refl _ _).grown hgrow (by simp) (by simp)
 have hA1 := hA.below hb1 (by omega)
 have hown1 : w1.ownsRow 0 5 1 (.slice (some ⟨w.heap.size + 1, 0, none⟩) size size) size ((textL a size 0).map (Value.int .u8)) := by
  have h := hown
  rw [textL_zero]
  rw [bytes_made] at h
  exact h
 have HB1 := Lib.hid hb1
 have HA1 := Lib.hid hA1
 have hal := hA1.lt
 clear hown hgrow hA hA1 hb1 hi
 go_wp2_with fail
 go_loopw [6, 11] (fun _ i wr => ∃ k : Nat, k ≤ size ∧ i = .int .i64 k ∧ Hid (wr.ownsRow 0 5 1 (.slice (some ⟨w.heap.size + 1, 0, none⟩) size size) size ((textL a size k).map (Value.int .u8))) ∧ Hid (Below (w.heap.size + 1) (w.alloc (Obj.cells #[.int .u64 (dig (a) 0 : Int), .int .u64 (dig (a) 1 : Int), .int .u64 (dig (a) 2 : Int), .int .u64 (dig (a) 3 : Int)] 96)) wr)) (fun _ i _ => size - (intOf i).toNat)
 case atStart => exact ⟨0, Nat.zero_le _, rfl, hown1, HB1.out⟩
 case round =>
  clear hown1 HB1 HA1 hal
  obtain ⟨k, hk, rfl, HO, HN⟩ := hrel
  by_cases hkl : k < size
  ·have hlen : size - 1 - k < ((textL a size k).map (Value.int .u8)).length := by simp [textL_length]; omega
   have hc := HO.out.cellAt (size - 1 - k) (by omega)
   rw [List.getElem?_eq_getElem hlen] at hc
   have hf := HO.out.frozenAt (size - 1 - k)
   have HS := Lib.hid (HO.out.stored (size - 1 - k) (.int .u8 (byteAt a k : Int)))
   generalize ((textL a size k).map (Value.int .u8))[size - 1 - k] = old at hc
   have hA : Blk (w.alloc (Obj.cells #[.int .u64 (dig (a) 0 : Int), .int .u64 (dig (a) 1 : Int), .int .u64 (dig (a) 2 : Int), .int .u64 (dig (a) 3 : Int)] 96)) w.heap.size 96 (lim a) := Blk.new w _ (lim a) _ rfl
   have hx := (hA.below HN.out (by omega)).cell (lim_at a (k / 8) (by omega))
   have hxl := (hA.below HN.out (by omega)).lt
   have hbyte : IntKind.u8.wrap ((dig a (k / 8) : Int) / 2 ^ (8 * (k % 8))) = (byteAt a k : Int) := by
    unfold byteAt
    rw [← byte_digit, IntKind.wrap_u8]
    simp [dig]
   have hidx : (size : Int) - 1 - (k : Int) = ((size - 1 - k : Nat) : Int) := by omega
   clear hlen hA
   go_wp2_with fail
   go_roundw
   case rel => exact ⟨k + 1, by omega, by go_num, by have h := HS.out.1; rw [← List.map_set, textL_set _ _ _ hkl] at h; exact h, HN.out.setCell (p := ⟨w.heap.size + 1, size - 1 - k, none⟩) (Nat.le_refl _) _⟩
   case measure => simp [intOf]; omega
  ·have hks : k = size := by omega
   subst hks
   have hcv := run_convert_bytes_arg (P := Try.prog) wr 155 5 Try.underlying155 Try.underlying5 (w.heap.size + 1) 0 k k (textL a k k) (textL_length _ _ _) (fun i hi => by
    have h := HO.out.cellAt i (by omega)
    rw [Nat.zero_add, h, List.getElem?_map, List.getElem?_eq_getElem (by rw [textL_length]; exact hi)]
    simp [List.getD, List.getElem?_eq_getElem (show i < (textL a k k).length by rw [textL_length]; exact hi)]) 9 Try.underlying9
   have hbl : Below w.heap.size w wr := ((Below.refl _ _).alloc (Nat.le_refl _) _).trans (HN.out.mono (by omega))
   have HBL := Lib.hid hbl
   clear hbl
   go_wp2_with fail
   go_ret
   exact ⟨rfl, HBL.out⟩
def numL : List UInt8 → Nat
 | [] => 0
 | c :: t => c.toNat * 256 ^ t.length + numL t
def numOf (s : ByteArray) : Nat := numL s.data.toList
theorem numL_lt : ∀ l : List UInt8, numL l < 256 ^ l.length
 | [] => by simp [numL]
 | c :: t => by
  have h1 := numL_lt t
  have h2 := c.toNat_lt
  rw [numL, List.length_cons, Nat.pow_succ]
  have h3 : c.toNat * 256 ^ t.length ≤ 255 * 256 ^ t.length := Nat.mul_le_mul_right _ (by omega)
  omega
def numTo (s : ByteArray) (k : Nat) : Nat := numL (s.data.toList.drop (s.size - k))
theorem numTo_lt (s : ByteArray) (k : Nat) (hk : k ≤ s.size) : numTo s k < 256 ^ k := by
 have h := numL_lt (s.data.toList.drop (s.size - k))
 have e : (s.data.toList.drop (s.size - k)).length = k := by simp; have : s.data.size = s.size := rfl; omega
 rwa [e] at h
theorem numTo_zero (s : ByteArray) : numTo s 0 = 0 := by
 have h : s.data.toList.drop (s.size - 0) = [] := List.drop_eq_nil_of_le (Nat.le_refl _)
 rw [numTo, h, numL]
theorem numTo_all (s : ByteArray) : numTo s s.size = numOf s := by simp [numTo, numOf]
theorem numTo_succ (s : ByteArray) (k : Nat) (hk : k < s.size) : numTo s (k + 1) = (s[s.size - 1 - k]'(by omega)).toNat * 256 ^ k + numTo s k := by
 have hsz : s.data.toList.length = s.size := rfl
 have h : s.data.toList.drop (s.size - (k + 1)) = s[s.size - 1 - k]'(by omega) :: s.data.toList.drop (s.size - k) := by
  rw [List.drop_eq_getElem_cons (by omega)]
  congr 1
  ·have hi : s.size - (k + 1) = s.size - 1 - k := by omega
   simp only [hi]
   rfl
  ·congr 1; omega
 have e : (s.data.toList.drop (s.size - k)).length = k := by rw [List.length_drop]; omega
 rw [numTo, h, numL, e, numTo]
theorem dig_put (v c k : Nat) (hv : v < 256 ^ k) (hc : c < 256) (j : Nat) : dig (c * 256 ^ k + v) j = if j = k / 8 then dig v j + c * 2 ^ (8 * (k % 8)) else dig v j := by
 have hb : BB = 256 ^ 8 := rfl
 have h2 : (2 : Nat) ^ (8 * (k % 8)) = 256 ^ (k % 8) := by rw [Nat.pow_mul]
 unfold dig
 rw [h2, hb, ← Nat.pow_mul]
 rcases Nat.lt_trichotomy j (k / 8) with h | h | h
 ·rw [if_neg (by omega)]
  have e : (256 : Nat) ^ k = 256 ^ (8 * j) * (256 ^ 8 * 256 ^ (k - 8 * j - 8)) := by rw [← Nat.pow_add, ← Nat.pow_add]; congr 1; omega
  rw [e, Nat.mul_left_comm, Nat.add_comm, Nat.add_mul_div_left _ _ (Nat.pow_pos (by omega)), Nat.mul_left_comm c, Nat.add_mul_mod_self_left]
 ·subst h
  rw [if_pos rfl]
  have hk : 8 * (k / 8) + k % 8 = k := Nat.div_add_mod k 8
  have e : (256 : Nat) ^ k = 256 ^ (8 * (k / 8)) * 256 ^ (k % 8) := by rw [← Nat.pow_add, hk]
  rw [e, Nat.mul_left_comm, Nat.add_comm, Nat.add_mul_div_left _ _ (Nat.pow_pos (by omega))]
  have hq : v / 256 ^ (8 * (k / 8)) < 256 ^ (k % 8) := Nat.div_lt_of_lt_mul (by rw [← e]; exact hv)
  have h8 : (256 : Nat) ^ (k % 8) * 256 ≤ 256 ^ 8 := by rw [← Nat.pow_succ]; exact Nat.pow_le_pow_right (by omega) (by omega)
  have h9 : c * 256 ^ (k % 8) ≤ 255 * 256 ^ (k % 8) := Nat.mul_le_mul_right _ (by omega)
  generalize (256 : Nat) ^ (k % 8) = p at *
  generalize v / 256 ^ (8 * (k / 8)) = q at *
  rw [Nat.mod_eq_of_lt (by omega), Nat.mod_eq_of_lt (a := q) (by omega)]
 ·rw [if_neg (by omega)]
  have hle : (256 : Nat) ^ (k + 1) ≤ 256 ^ (8 * j) := Nat.pow_le_pow_right (by omega) (by omega)
  have h9 : c * 256 ^ k ≤ 255 * 256 ^ k := Nat.mul_le_mul_right _ (by omega)
  rw [Nat.pow_succ] at hle
  rw [Nat.div_eq_of_lt (by omega), Nat.div_eq_of_lt (by omega)]
theorem lim_put (v c k : Nat) (hv : v < 256 ^ k) (hc : c < 256) (hk : k < 32) : (lim v).set (k / 8) (dig (c * 256 ^ k + v) (k / 8) : Int) = lim (c * 256 ^ k + v) := by
 have h := dig_put v c k hv hc
 have hj : k / 8 < 4 := by omega
 have e : ∀ j, j ≠ k / 8 → dig (c * 256 ^ k + v) j = dig v j := fun j hj => by rw [h, if_neg hj]
 generalize k / 8 = i at *
 match i, hj with
 | 0, _ => simp [lim, e 1 (by omega), e 2 (by omega), e 3 (by omega)]
 | 1, _ => simp [lim, e 0 (by omega), e 2 (by omega), e 3 (by omega)]
 | 2, _ => simp [lim, e 0 (by omega), e 1 (by omega), e 3 (by omega)]
 | 3, _ => simp [lim, e 0 (by omega), e 1 (by omega), e 2 (by omega)]
theorem dig_or (v c k : Nat) (hv : v < 256 ^ k) (hc : c < 256) (_hk : k < 32) : bits .or .u64 (dig v (k / 8) : Int) (IntKind.u64.wrap ((c : Int) * 2 ^ (8 * (k % 8)))) = (dig (c * 256 ^ k + v) (k / 8) : Int) := by
 have h := dig_put v c k hv hc (k / 8)
 rw [if_pos rfl] at h
 have hb : BB = 256 ^ 8 := rfl
 have h2 : (2 : Nat) ^ (8 * (k % 8)) = 256 ^ (k % 8) := by rw [Nat.pow_mul]
 have hlt : dig v (k / 8) < 2 ^ (8 * (k % 8)) := by
  unfold dig
  rw [h2, hb, ← Nat.pow_mul]
  refine Nat.lt_of_le_of_lt (Nat.mod_le _ _) (Nat.div_lt_of_lt_mul ?_)
  rw [← Nat.pow_add, Nat.div_add_mod]
  exact hv
 have h3 := dig_lt (c * 256 ^ k + v) (k / 8)
 have hcs : c * 2 ^ (8 * (k % 8)) < 2 ^ 64 := by
  show _ < 18446744073709551616
  have : BB = 18446744073709551616 := rfl
  omega
 have hw : IntKind.u64.wrap ((c : Int) * 2 ^ (8 * (k % 8))) = ((c * 2 ^ (8 * (k % 8)) : Nat) : Int) := by
  have e : ((c : Int) * 2 ^ (8 * (k % 8))) = ((c * 2 ^ (8 * (k % 8)) : Nat) : Int) := by simp
  rw [e]
  exact wraps_u64 _ (Int.natCast_nonneg _) (by exact_mod_cast hcs)
 rw [hw, (bits_nat .u64 64 (by decide) wraps_u64 (dig v (k / 8)) (c * 2 ^ (8 * (k % 8))) (dig_lt _ _) hcs).2, h]
 congr 1
 rw [Nat.or_comm, ← Nat.shiftLeft_eq, ← Nat.shiftLeft_add_eq_or_of_lt hlt, Nat.add_comm]
theorem read_long (s : ByteArray) (hs : 32 < s.size) (w : World) : Calls Try.prog 109 #[.string s] w fun e w' => e = .returned (.tuple #[limbV 0, .bool false]) ∧ Below w.heap.size w w' := by
 go_enter Try.func109, Try.ntmps109
 go_wp2_with fail
 simp [bodyPost, results, Try.results109, go_sem, limbV, dig]
 exact (Below.refl _ _).alloc (Nat.le_refl _) _
theorem read_any (s : ByteArray) (hs : s.size ≤ 32) (w : World) : Calls Try.prog 109 #[.string s] w fun e w' => e = .returned (.tuple #[limbV (numOf s), .bool true]) ∧ Below w.heap.size w w' := by
 go_enter Try.func109, Try.ntmps109
 go_wp2_with fail
 have hT : Blk (w.alloc (Obj.cells #[.int .u64 0, .int .u64 0, .int .u64 0, .int .u64 0] 96)) w.heap.size 96 (lim (numTo s 0)) := by rw [numTo_zero]; exact Blk.new w _ (lim 0) _ rfl
 have hBW : Below w.heap.size w (w.alloc (Obj.cells #[.int .u64 0, .int .u64 0, .int .u64 0, .int .u64 0] 96)) := (Below.refl _ _).alloc (Nat.le_refl _) _
 have HT := Lib.hid hT
 have HBW := Lib.hid hBW
 clear hT hBW
 go_loopw [4, 11] (fun _ i wr => ∃ k : Nat, k ≤ s.size ∧ i = .int .i64 k ∧ Hid (Blk wr w.heap.size 96 (lim (numTo s k))) ∧ Hid (Below w.heap.size w wr)) (fun _ i _ => s.size - (intOf i).toNat)
 case atStart => exact ⟨0, Nat.zero_le _, rfl, HT.out, HBW.out⟩
 case round =>
  clear HT HBW
  obtain ⟨k, hk, rfl, HT, HN⟩ := hrel
  have htl := HT.out.lt
  by_cases hkl : k < s.size
  ·have hx := HT.out.cell (lim_at (numTo s k) (k / 8) (by omega))
   have hf := HT.out.frozen (k / 8)
   have hidx : (s.size : Int) - 1 - (k : Int) = ((s.size - 1 - k : Nat) : Int) := by omega
   have hlt : s.size - 1 - k < s.size := by omega
   have hc := (s[s.size - 1 - k]'hlt).toNat_lt
   have hor := dig_or (numTo s k) (s[s.size - 1 - k]'hlt).toNat k (numTo_lt s k hk) hc (by omega)
   have hlp := lim_put (numTo s k) (s[s.size - 1 - k]'hlt).toNat k (numTo_lt s k hk) hc (by omega)
   have hset := HT.out.set (k / 8) (dig (numTo s (k + 1)) (k / 8) : Int)
   rw [← numTo_succ s k hkl] at hor hlp
   rw [hlp] at hset
   have HS := Lib.hid hset
   have HB := Lib.hid (HN.out.setCell (p := ⟨w.heap.size, k / 8, none⟩) (Nat.le_refl _) (.int .u64 (dig (numTo s (k + 1)) (k / 8) : Int)))
   clear hset
   have HLP := Lib.hid hlp
   clear hlp
   go_wp2_with fail
   refine wp_region_otail 18 (by kernel_rfl) (by kernel_rfl) ?_
   simp only [List.take_succ_cons, List.take_zero, List.drop_succ_cons, List.drop_zero]
   have hov := fun (E : Over wr) o => E.cell (b := w.heap.size) o htl
   repeat (go_big_quiet_step (fail))
   refine wpQuiet_nil ?_
   rintro _ ⟨E, rfl⟩
   have HTE := Lib.hid (HT.out.below E.h HT.out.lt)
   have HNE := Lib.hid (HN.out.trans (E.h.mono (by omega)))
   clear hov hx hf HS HB
   generalize E.w = w5 at *
   have hx := HTE.out.cell (lim_at (numTo s k) (k / 8) (by omega))
   have hf := HTE.out.frozen (k / 8)
   have hset := HTE.out.set (k / 8) (dig (numTo s (k + 1)) (k / 8) : Int)
   rw [HLP.out] at hset
   have HS := Lib.hid hset
   clear hset
   go_wp2_with fail
   go_roundw
   case rel => exact ⟨k + 1, by omega, by go_num, HS.out, HNE.out.setCell (p := ⟨w.heap.size, k / 8, none⟩) (Nat.le_refl _) _⟩
   case measure => simp [intOf]; omega
  ·have hks : k = s.size := by omega
   subst hks
   rw [numTo_all] at HT
   have hg_ := Blk.l4 (numOf s) HT.out
   have hgf_ := HT.out.frozen
   have HS := Lib.hid (HT.out.fill rfl (numOf s))
   have HB := Lib.hid (below_fill (n := numOf s) (b := w.heap.size) HN.out (Nat.le_refl _))
   go_wp2_with fail
   generalize (((((wr).setCell ⟨w.heap.size, 0, none⟩ (.int .u64 (dig (numOf s) 0 : Int))).setCell ⟨w.heap.size, 1, none⟩ (.int .u64 (dig (numOf s) 1 : Int))).setCell ⟨w.heap.size, 2, none⟩ (.int .u64 (dig (numOf s) 2 : Int))).setCell ⟨w.heap.size, 3, none⟩ (.int .u64 (dig (numOf s) 3 : Int))) = w5 at *
   clear hg_
   have hg_ := Blk.l4 (numOf s) HS.out
   simp [bodyPost, results, Try.results109, go_sem, hg_]
   exact ⟨rfl, HB.out⟩
end Go.Proofs.Ytjmeakfjfpnciaa
