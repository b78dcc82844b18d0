/- A region that draws its order, walked along a tree: where two operations that act may come up, both ways are walked. No condition beyond those that each law names. -/
import Derived.Test.YtdmldnpadojflaaOrd
namespace Go.Proofs.Ytdmldnpadojflaa
open Go.RowKit

def isNilCheck (o : Oper) : Bool := match o.op with | .nilCheck _ => true | _ => false

theorem nilCheck_value {P : Program} {ρ : Operand → Value} {o : Oper} (hp : isNilCheck o = true) {w w' : World} {n : Next} (h : (execOp ρ o).run P w = .ok n w') : ∃ x, n = .value x := by
  unfold isNilCheck at hp
  split at hp
  · rename_i x hx
    unfold execOp at h
    rw [hx] at h
    simp only at h
    split at h
    all_goals first
      | (simp at h; exact ⟨_, h.1.symm⟩)
      | (simp [runtimePanic] at h; done)
      | skip
    split at h
    · simp [runtimePanic] at h
    · rw [Sem.run_bind] at h
      cases hs : Sem.run P program w with
      | halt x w1 => rw [hs] at h; simp [Result.andThen] at h
      | ok pr w1 =>
        rw [hs] at h
        simp only [Result.andThen] at h
        rw [Sem.run_bind] at h
        cases hs2 : Sem.run P (nilAhead (pr.types.size + Made.depth) ‹_› ‹_› ‹_›) w1 with
        | halt x w2 => rw [hs2] at h; simp [Result.andThen] at h
        | ok z w2 =>
          rw [hs2] at h
          simp only [Result.andThen] at h
          split at h
          · simp [unsupported] at h
          · simp at h
            exact ⟨_, h.1.symm⟩
    · simp at h
      exact ⟨_, h.1.symm⟩
  · cases hp

/-- Operations that only yield a value, checks against nil among them. -/
def easyOp (o : Oper) : Bool := plainOp o || isNilCheck o

theorem easy_value {P : Program} {ρ : Operand → Value} {o : Oper} (hp : easyOp o = true) {w w' : World} {n : Next} (h : (execOp ρ o).run P w = .ok n w') : ∃ x, n = .value x := by
  unfold easyOp at hp
  cases hq : plainOp o with
  | true => exact plain_value hq h
  | false => rw [hq] at hp; exact nilCheck_value (by simpa using hp) h

/-- The orders: an operation that only reads is taken at once; of those that act, one, or two in either order. -/
inductive Tree where
  | done : Tree
  | q : Nat → Tree → Tree
  | a : Nat → Tree → Tree
  | two : Nat → Tree → Nat → Tree → Tree

/-- The first operations only read. -/
def Tree.qs : List Nat → Tree → Tree
  | [], t => t
  | i :: l, t => .q i (Tree.qs l t)

def Tree.size : Tree → Nat
  | .done => 0
  | .q _ r => r.size + 1
  | .a _ r => r.size + 1
  | .two _ r _ _ => r.size + 1

def wpTree (P : Program) (ops : Array Oper) (S : World → Prop) (Q : Exit → Act → World → Prop) : Tree → Act → World → Prop
  | .done, a, w => Q .normal a w
  | .q i r, a, w => match ops[i]? with
    | none => False
    | some o => easyOp o = true ∧ wpQuiet P ops S (fun a' => wpTree P ops S Q r a' w) [o] a
  | .a i r, a, w => wpOp P ops Q i (fun a' w' => S w' ∧ wpTree P ops S Q r a' w') a w
  | .two i r j s, a, w => wpOp P ops Q i (fun a' w' => S w' ∧ wpTree P ops S Q r a' w') a w ∧ wpOp P ops Q j (fun a' w' => S w' ∧ wpTree P ops S Q s a' w') a w

def treeB (md : Region.Mode) (ops : Array Oper) : Tree → Array Bool → Bool
  | .done, listed => (Region.ready md ops listed).isEmpty
  | .q i r, listed => (Region.ready md ops listed).contains i && Region.free md ops listed i && treeB md ops r (listed.setIfInBounds i true)
  | .a i r, listed => decide (Region.ready md ops listed = [i]) && treeB md ops r (listed.setIfInBounds i true)
  | .two i r j s, listed => decide (Region.ready md ops listed = [i, j]) && decide (r.size = s.size) && treeB md ops r (listed.setIfInBounds i true) && treeB md ops s (listed.setIfInBounds j true)

section
variable {P : Program} {ops : Array Oper} {S : World → Prop} {Q : Exit → Act → World → Prop}

theorem yieldsIf_easy {o : Oper} {a : Act} {K : Act → Prop} (hp : easyOp o = true) (h : wpQuiet P ops S K [o] a) : ∃ v, YieldsIf P ops S o v a ∧ K (a.put o.dst v) := by
  unfold wpQuiet at h
  by_cases hw : Region.wanted o (yielded ops a.tmps) = true
  · rw [if_pos hw] at h
    obtain ⟨v, h1, h2⟩ := h
    refine ⟨v, Or.inl ⟨hw, fun w hw' => ?_⟩, h2⟩
    have h3 := h1 w hw'
    unfold Oper.quietAt at h3
    cases hr : (execOp a.eval o).run P w with
    | ok n w1 =>
      obtain ⟨x, rfl⟩ := easy_value hp hr
      rw [hr] at h3
      simp only [Oper.quietUpon] at h3
      rw [h3.1, h3.2]
    | halt x w1 =>
      rw [hr] at h3
      simp only [Oper.quietUpon] at h3
  · rw [if_neg hw] at h
    exact ⟨undef, Or.inr ⟨by simpa using hw, rfl⟩, h⟩

theorem held_of_tree {md : Region.Mode} (hsel : Region.noSelect ops = true) (hQ : ∀ c a d v w, Q (.panic c) (a.put d v) w → Q (.panic c) a w) :
    ∀ (t : Tree) (listed : Array Bool) (a : Act) (w : World), S w → treeB md ops t listed = true → wpTree P ops S Q t a w → wpAnyH P md ops Q S t.size listed a w
  | .done, listed, a, w, _, hB, h => wpAnyH_done (by simpa [treeB] using hB) h 0
  | .q i r, listed, a, w, hS, hB, h => by
    unfold wpTree at h
    split at h
    · cases h
    · rename_i o ho
      obtain ⟨hp, hq⟩ := h
      obtain ⟨v, hy, hK⟩ := yieldsIf_easy hp hq
      simp only [treeB, Bool.and_eq_true] at hB
      exact wpAnyH_take ho hsel hB.1.2 hB.1.1 (fun c a w hq => hQ c a _ _ w hq) hy hS (held_of_tree hsel hQ r _ _ w hS hB.2 hK)
  | .a i r, listed, a, w, hS, hB, h => by
    simp only [treeB, Bool.and_eq_true, decide_eq_true_eq] at hB
    unfold wpTree at h
    refine wpAnyH_all hB.1 (by simp) ?_
    intro j hj
    have hj' : j = i := by simpa using hj
    subst hj'
    exact wpOp_mono (fun a' w' ⟨hS', h'⟩ => ⟨hS', held_of_tree hsel hQ r _ a' w' hS' hB.2 h'⟩) h
  | .two i r j s, listed, a, w, hS, hB, h => by
    simp only [treeB, Bool.and_eq_true, decide_eq_true_eq] at hB
    obtain ⟨⟨⟨h1, h2⟩, h3⟩, h4⟩ := hB
    unfold wpTree at h
    refine wpAnyH_all h1 (by simp) ?_
    intro k hk
    rcases (by simpa using hk : k = i ∨ k = j) with rfl | rfl
    · exact wpOp_mono (fun a' w' ⟨hS', h'⟩ => ⟨hS', held_of_tree hsel hQ r _ a' w' hS' h3 h'⟩) h.1
    · exact wpOp_mono (fun a' w' ⟨hS', h'⟩ => ⟨hS', by rw [h2]; exact held_of_tree hsel hQ s _ a' w' hS' h4 h'⟩) h.2

theorem wp_region_tree {id : Nat} {a : Act} {w : World} {l : List Oper} (S : World → Prop) (t : Tree) (hm : P.follows .mixedOrders = true)
    (hB : (Region.noSelect l.toArray && decide (t.size = l.toArray.size) && treeB .any l.toArray t (Array.replicate l.toArray.size false)) = true)
    (hQ : ∀ c a d v w, Q (.panic c) (a.put d v) w → Q (.panic c) a w) (hS : S w.drew) (h : wpTree P l.toArray S Q t a w.drew) : (Code.region id l.toArray true).wp P Q a w := by
  simp only [Bool.and_eq_true, decide_eq_true_eq] at hB
  refine wp_region_held (S := S) hm ?_
  have := held_of_tree hB.1.1 hQ t _ a _ hS hB.2 h
  rw [hB.1.2] at this
  exact this

theorem tree_q {l : List Oper} {i : Nat} {r : Tree} {o : Oper} {a : Act} {w : World} (ho : l[i]? = some o) (hp : easyOp o = true) (h : wpQuiet P l.toArray S (fun a' => wpTree P l.toArray S Q r a' w) [o] a) :
    wpTree P l.toArray S Q (.q i r) a w := by
  unfold wpTree
  rw [List.getElem?_toArray, ho]
  exact ⟨hp, h⟩

theorem tree_a {l : List Oper} {i : Nat} {r : Tree} {o : Oper} {a : Act} {w : World} (ho : l[i]? = some o)
    (h : ∀ K : Act → World → Prop, (∀ a w, S w ∧ wpTree P l.toArray S Q r a w → K a w) → if Region.wanted o (yielded l.toArray a.tmps) = true then Oper.wp P o a w K Q else K (a.put o.dst undef) w) :
    wpTree P l.toArray S Q (.a i r) a w := by
  unfold wpTree
  exact wpOp_step (by rw [List.getElem?_toArray, ho]) h

theorem tree_two {l : List Oper} {i j : Nat} {r s : Tree} {o u : Oper} {a : Act} {w : World} (ho : l[i]? = some o) (hu : l[j]? = some u)
    (h : ∀ K : Act → World → Prop, (∀ a w, S w ∧ wpTree P l.toArray S Q r a w → K a w) → if Region.wanted o (yielded l.toArray a.tmps) = true then Oper.wp P o a w K Q else K (a.put o.dst undef) w)
    (h' : ∀ K : Act → World → Prop, (∀ a w, S w ∧ wpTree P l.toArray S Q s a w → K a w) → if Region.wanted u (yielded l.toArray a.tmps) = true then Oper.wp P u a w K Q else K (a.put u.dst undef) w) :
    wpTree P l.toArray S Q (.two i r j s) a w := by
  unfold wpTree
  exact ⟨wpOp_step (by rw [List.getElem?_toArray, ho]) h, wpOp_step (by rw [List.getElem?_toArray, hu]) h'⟩

theorem tree_end {a : Act} {w : World} (h : Q .normal a w) : wpTree P ops S Q .done a w := h
end

end Go.Proofs.Ytdmldnpadojflaa
