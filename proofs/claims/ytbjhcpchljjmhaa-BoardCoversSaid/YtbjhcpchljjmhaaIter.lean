/- A range over a function whose iterator keeps its place in a variable of its own: every round goes on. No condition. -/
import Derived.Test.YtbjhcpchljjmhaaOwn
import Derived.RangeFuncNested
import Derived.RangeFuncBox
import Derived.RangeFuncCalls
import Derived.RangeFuncBound
import Derived.RangeFuncLeaves
import Derived.Shelf.Abstract
import Derived.Shelf.RegionOpen
import Derived.WalkKit
import Derived.OwnWalkIn
import Derived.TacticsInMore
import Derived.LoopNIn
import Derived.LoopIn
import Derived.Maps.AppendAt
namespace Go.Proofs.Ytbjhcpchljjmhaa
open Go.RowKit

/-- How a round ends: it goes on. -/
def goesOn (R : World → Prop) : Exit → Act → World → Prop
  | .normal, _, w => R w
  | _, _, _ => False

theorem range_rounds {F : Fence} {n : Nat} {P : Program} {α : Type} {g : Operand} {ps : Array Tmp} {assign body : Code} {Q : Exit → Act → World → Prop} {a : Act} {w : World}
    (hro : F.round = none) (h1 : 1 ≤ n) {gf : Nat} {lb : Array Value} (hg : a.eval g = .func (.func gf) #[] lb) (hFg : F.fn gf) (eg : ∀ args w, (callFunc gf args).run P w = .ok (.enter gf args) w)
    {encs : α → Array Value} (hps : ∀ x, (encs x).size = ps.size) (c : Nat) (xs : List α) (v0 : Value)
    (I : List α → Value → World → Prop) (Rd : Value → World → Prop) (hRd : ∀ s v W, I s v W → Rd v W)
    (hIp : ∀ s v W l o o', w.heap.size ≤ l → W.heap[l]? = some o → o.isCells = false → I s v W → I s v (W.putObj l o'))
    (hIa : ∀ s v W o, I s v W → I s v (W.alloc o)) (hIc : ∀ s v v' W, I s v W → I s v' (W.setCell ⟨c, 0, none⟩ v')) (h0 : I [] v0 w)
    (hround : ∀ (l : Nat) (s : List α) (x : α) (v : Value) (W : World), w.heap.size ≤ l → s ++ [x] <+: xs → I s v W → assign.wpIn (F.inRound l) (n - 1 - 1) P (Exit.then (fun a₁ W₁ => KeepsOthers W W₁ ∧
        ∀ r o', W₁.heap[l]? = some (.loop r) → body.wpIn (F.inRound l) (n - 1 - 1) P (goesOn fun W' => KeepsOthers (W₁.putObj l o') W' ∧ I (s ++ [x]) v W') a₁ (W₁.putObj l o')) (fun _ _ _ => False))
      { tmps := (ps.zip (encs x)).foldl (fun t (p, v) => t.setIfInBounds p v) a.tmps, defers := [] } W)
    (hiter : ∀ (l : Nat) (J : List α → Value → World → Prop) (W : World), (∀ s v W, J s v W → Rd v W) → (∀ s v v' W, J s v W → J s v' (W.setCell ⟨c, 0, none⟩ v')) →
      (∀ s x v W, s ++ [x] <+: xs → J s v W → YieldAt F (n - 1 - 1) P l (encs x) W fun e W' => e = .returned (.bool true) ∧ J (s ++ [x]) v W') → J [] v0 W →
      CallsIn F (n - 1) P gf (#[.func (.yield l) #[] #[]] ++ lb) W fun e W' => (∃ u, e = .returned u) ∧ ∃ v, J xs v W')
    (hdone : ∀ (D : Nat) (v : Value) (W : World), w.heap.size ≤ D → I xs v W → W.heap[D]? = some (.deferred (some [])) → Q .normal { a with defers := { target := .collected D, args := #[] } :: a.defers } W) :
    (Code.rangeFunc g ps assign body).wpIn F n P Q a w := by
  refine wpIn_rangeFunc (fun fn hfn => ?_)
  rw [hro]
  let L : LoopState → Option Code → Loop := fun st pe => { state := st, pending := pe, fn, tmps := a.tmps, params := ps, assign, body, defers := w.heap.size }
  obtain ⟨w1, hw1⟩ : ∃ w1, (w.alloc (.deferred (some []))).alloc (.loop (L .ready none)) = w1 := ⟨_, rfl⟩
  have hL1 : w1.heap[w.heap.size + 1]? = some (.loop (L .ready none)) := by
    rw [← hw1]
    have := World.alloc_heap_new (w.alloc (.deferred (some []))) (.loop (L .ready none))
    rwa [World.size_alloc] at this
  have hD1 : w1.heap[w.heap.size]? = some (.deferred (some [])) := by
    rw [← hw1]
    exact (Below.heap_alloc _ _ _ (by simp)).trans (World.alloc_heap_new w _)
  have hI1 : I [] v0 w1 := by rw [← hw1]; exact hIa _ _ _ _ (hIa _ _ _ _ h0)
  let J : List α → Value → World → Prop := fun s v W => I s v W ∧ W.heap[w.heap.size + 1]? = some (.loop (L .ready none)) ∧ W.heap[w.heap.size]? = some (.deferred (some []))
  refine ⟨w.heap.size + 1, [{ target := .collected w.heap.size, args := #[] }], w1, { target := .fn (.func gf) lb, args := #[.func (.yield (w.heap.size + 1)) #[] #[]] }, w1, gf,
    #[.func (.yield (w.heap.size + 1)) #[] #[]] ++ lb, w1, ?_, ?_, ?_, ?_, fun _ => h1, ?_⟩
  · rw [← hw1]; exact run_enterLoop_outer _ _ _ _ _
  · simp only [resolve, hg]
    simp [go_sem]
  · intro f' hf'; simp [Target.leads] at hf'; subst hf'; exact hFg
  · simp [invoke, go_sem, eg]
  · refine (hiter (w.heap.size + 1) J w1 (fun s v W h => hRd s v W h.1) (fun s v v' W h => ⟨hIc s v v' W h.1, (KeepsOthers.setCell W _ v').same _ _ h.2.1 rfl, (KeepsOthers.setCell W _ v').same _ _ h.2.2 rfl⟩) ?_ ⟨hI1, hL1, hD1⟩).mono ?_
    · rintro s x v W hpre ⟨hi, hl, hd⟩
      have hy := run_yield (P := P) (args := encs x) hl (hps x)
      refine ⟨fn, _, assign, body, hy, roundIn_of_wpIn hfn (wpIn_mono (hround (w.heap.size + 1) s x v W (by omega) hpre hi) ?_)⟩
      rintro e a1 W1 hp
      cases e with
      | normal =>
        obtain ⟨hk1, hb1⟩ := hp
        have hl1 := hk1.same _ _ hl rfl
        have hd1 := hk1.same _ _ hd rfl
        have hlt := (Array.getElem?_eq_some_iff.1 hl1).1
        refine ⟨_, run_beginRound hl1 rfl, wpIn_mono (hb1 _ (.loop { L .ready none with state := .busy }) hl1) ?_⟩
        rintro e2 a2 W2 hp2
        cases e2 with
        | normal =>
          obtain ⟨hk2, hi2⟩ := hp2
          have hl2 := hk2.same _ _ (World.putObj_heap_same hlt) rfl
          have hd2 := hk2.same _ _ ((World.putObj_heap_other (by omega)).trans hd1) rfl
          exact ⟨_, _, run_endRound none hl2, rfl, hIp _ _ _ _ _ _ (by omega) hl2 rfl hi2, World.putObj_heap_same (Array.getElem?_eq_some_iff.1 hl2).1, (World.putObj_heap_other (by omega)).trans hd2⟩
        | _ => exact hp2.elim
      | _ => exact hp.elim
    · rintro e W2 ⟨⟨u, rfl⟩, v, hi, hl, hd⟩
      exact ⟨none, _, run_endLoop hl (by simp [L]), hdone w.heap.size v _ (Nat.le_refl _) (hIp _ _ _ _ _ _ (by omega) hl rfl hi) ((World.putObj_heap_other (by omega)).trans hd)⟩

end Go.Proofs.Ytbjhcpchljjmhaa
