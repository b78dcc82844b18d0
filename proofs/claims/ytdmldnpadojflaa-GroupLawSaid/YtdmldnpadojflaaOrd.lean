/- A region that draws its order, walked in an order of one's choice: what only reads is taken as soon as it may come up; what calls, makes or writes comes up alone. No condition beyond those that each law names. -/
import Derived.Test.YtdmldnpadojflaaOwn
import Derived.OrdersHeld
namespace Go.Proofs.Ytdmldnpadojflaa
open Go.RowKit

/-- Operations that only yield a value. -/
def plainOp (o : Oper) : Bool :=
  match o.op with
  | .move _ | .assign _ | .pick _ _ _ | .build _ _ | .load _ _ | .binOp _ _ _ _ _ | .unOp _ _ _ | .convert _ _ _ | .slice _ _ _ _ _ | .fieldAddr _ _ _ | .field _ _ _ | .indexAddr _ _ _ | .index _ _ _
  | .lookup _ _ _ _ | .extract _ _ | .makeInterface _ _ | .makeFunc _ _ _ => true
  | .call c => match c.callee with
    | .builtin .len | .builtin .cap => true
    | _ => false
  | _ => false

theorem run_value {α : Type} {P : Program} (s : Sem α) (f : α → Value) (w : World) {n : Next} {w' : World} (h : Sem.run P (do pure (Next.value (f (← s)))) w = .ok n w') : ∃ x, n = .value x := by
  rw [Sem.run_bind] at h
  cases hs : Sem.run P s w with
  | ok x w1 => rw [hs] at h; simp [Result.andThen] at h; exact ⟨_, h.1.symm⟩
  | halt x w1 => rw [hs] at h; simp [Result.andThen] at h

theorem plain_value {P : Program} {ρ : Operand → Value} {o : Oper} (hp : plainOp o = true) {w w' : World} {n : Next} (h : (execOp ρ o).run P w = .ok n w') : ∃ x, n = .value x := by
  unfold execOp at h
  unfold plainOp at hp
  split at h
  all_goals first
    | exact run_value _ (fun x => x) _ h
    | (simp_all; done)
    | (simp at h; exact ⟨_, h.1.symm⟩)
    | (rename_i c _ _ _; exact run_value (asBool (ρ c)) (fun b => if b = true then _ else _) _ h)
    | skip
  rename_i c hc
  rw [hc] at hp
  simp only at hp
  split at hp
  · rename_i hl
    simp [resolve, hl, invoke, builtin] at h
    exact run_value _ (fun x => x) _ (by simpa using h)
  · rename_i hl
    simp [resolve, hl, invoke, builtin] at h
    exact run_value _ (fun x => x) _ (by simpa using h)
  · cases hp

/-- The walk in the order given: (number, whether it only reads). -/
def wpFlat (P : Program) (ops : Array Oper) (S : World → Prop) (Q : Exit → Act → World → Prop) : List (Nat × Bool) → Act → World → Prop
  | [], a, w => Q .normal a w
  | (i, true) :: r, a, w => match ops[i]? with
    | none => False
    | some o => plainOp o = true ∧ wpQuiet P ops S (fun a' => wpFlat P ops S Q r a' w) [o] a
  | (i, false) :: r, a, w => wpOp P ops Q i (fun a' w' => S w' ∧ wpFlat P ops S Q r a' w') a w

/-- May the operations come up in that order? -/
def flatB (md : Region.Mode) (ops : Array Oper) : List (Nat × Bool) → Array Bool → Bool
  | [], listed => (Region.ready md ops listed).isEmpty
  | (i, true) :: r, listed => (Region.ready md ops listed).contains i && Region.free md ops listed i && flatB md ops r (listed.setIfInBounds i true)
  | (i, false) :: r, listed => decide (Region.ready md ops listed = [i]) && flatB md ops r (listed.setIfInBounds i true)

section
variable {P : Program} {ops : Array Oper} {S : World → Prop} {Q : Exit → Act → World → Prop}

theorem yieldsIf_of_quiet {o : Oper} {a : Act} {K : Act → Prop} (hp : plainOp o = true) (h : wpQuiet P ops S K [o] a) : ∃ v, YieldsIf P ops S o v a ∧ K (a.put o.dst v) := by
  unfold wpQuiet at h
  by_cases hw : Region.wanted o (yielded ops a.tmps) = true
  · rw [if_pos hw] at h
    obtain ⟨v, h1, h2⟩ := h
    refine ⟨v, Or.inl ⟨hw, fun w hw' => ?_⟩, h2⟩
    have h3 := h1 w hw'
    unfold Oper.quietAt at h3
    cases hr : (execOp a.eval o).run P w with
    | ok n w1 =>
      obtain ⟨x, rfl⟩ := plain_value hp hr
      rw [hr] at h3
      simp only [Oper.quietUpon] at h3
      rw [h3.1, h3.2]
    | halt x w1 =>
      rw [hr] at h3
      simp only [Oper.quietUpon] at h3
  · rw [if_neg hw] at h
    exact ⟨undef, Or.inr ⟨by simpa using hw, rfl⟩, h⟩

theorem held_of_flat {md : Region.Mode} (hsel : Region.noSelect ops = true) (hQ : ∀ c a d v w, Q (.panic c) (a.put d v) w → Q (.panic c) a w) :
    ∀ (order : List (Nat × Bool)) (listed : Array Bool) (a : Act) (w : World), S w → flatB md ops order listed = true → wpFlat P ops S Q order a w → wpAnyH P md ops Q S order.length listed a w
  | [], listed, a, w, _, hB, h => wpAnyH_done (by simpa [flatB] using hB) h 0
  | (i, true) :: r, listed, a, w, hS, hB, h => by
    unfold wpFlat at h
    split at h
    · cases h
    · rename_i o ho
      obtain ⟨hp, hq⟩ := h
      obtain ⟨v, hy, hK⟩ := yieldsIf_of_quiet hp hq
      simp only [flatB, Bool.and_eq_true] at hB
      exact wpAnyH_take ho hsel hB.1.2 hB.1.1 (fun c a w hq => hQ c a _ _ w hq) hy hS (held_of_flat hsel hQ r _ _ w hS hB.2 hK)
  | (i, false) :: r, listed, a, w, hS, hB, h => by
    simp only [flatB, Bool.and_eq_true, decide_eq_true_eq] at hB
    unfold wpFlat at h
    refine wpAnyH_all hB.1 (by simp) ?_
    intro j hj
    have hj' : j = i := by simpa using hj
    subst hj'
    exact wpOp_mono (fun a' w' ⟨hS', h'⟩ => ⟨hS', held_of_flat hsel hQ r _ a' w' hS' hB.2 h'⟩) h

theorem wp_region_flat {id : Nat} {a : Act} {w : World} {l : List Oper} (S : World → Prop) (order : List (Nat × Bool)) (hm : P.follows .mixedOrders = true)
    (hB : (Region.noSelect l.toArray && decide (order.length = l.toArray.size) && flatB .any l.toArray order (Array.replicate l.toArray.size false)) = true)
    (hQ : ∀ c a d v w, Q (.panic c) (a.put d v) w → Q (.panic c) a w) (hS : S w.drew) (h : wpFlat P l.toArray S Q order a w.drew) : (Code.region id l.toArray true).wp P Q a w := by
  simp only [Bool.and_eq_true, decide_eq_true_eq] at hB
  refine wp_region_held (S := S) hm ?_
  have := held_of_flat hB.1.1 hQ order _ a _ hS hB.2 h
  rw [hB.1.2] at this
  exact this

theorem flat_q {l : List Oper} {i : Nat} {r : List (Nat × Bool)} {o : Oper} {a : Act} {w : World} (ho : l[i]? = some o) (hp : plainOp o = true) (h : wpQuiet P l.toArray S (fun a' => wpFlat P l.toArray S Q r a' w) [o] a) :
    wpFlat P l.toArray S Q ((i, true) :: r) a w := by
  unfold wpFlat
  rw [List.getElem?_toArray, ho]
  exact ⟨hp, h⟩

theorem flat_a {l : List Oper} {i : Nat} {r : List (Nat × Bool)} {o : Oper} {a : Act} {w : World} (ho : l[i]? = some o)
    (h : ∀ K : Act → World → Prop, (∀ a w, S w ∧ wpFlat P l.toArray S Q r a w → K a w) → if Region.wanted o (yielded l.toArray a.tmps) = true then Oper.wp P o a w K Q else K (a.put o.dst undef) w) :
    wpFlat P l.toArray S Q ((i, false) :: r) a w := by
  unfold wpFlat
  exact wpOp_step (by rw [List.getElem?_toArray, ho]) h

theorem flat_end {a : Act} {w : World} (h : Q .normal a w) : wpFlat P ops S Q [] a w := h
end

/-- Worlds in which all that was there in W is as it was, but for one row. -/
structure But (W : World) (row : Option Nat) where
  w : World
  h : W.grownBy w row

instance (W : World) (row : Option Nat) : Nonempty (But W row) := ⟨⟨W, ⟨rfl, rfl, rfl, Nat.le_refl _, fun _ _ _ => rfl⟩⟩⟩

theorem But.cell {W : World} {row : Option Nat} (E : But W row) {b : Nat} (o : Nat) (hb : b < W.heap.size) (hr : row ≠ some b) : E.w.cell? ⟨b, o, none⟩ = W.cell? ⟨b, o, none⟩ :=
  World.cell?_of_block (w := W) (a := ⟨b, o, none⟩) (E.h.block b hb (fun e => hr e.symm))

theorem but_of {W w : World} {row : Option Nat} (h : W.grownBy w row) : ∃ E : But W row, w = E.w := ⟨⟨w, h⟩, rfl⟩

theorem grownBy_refl (W : World) (row : Option Nat) : W.grownBy W row := ⟨rfl, rfl, rfl, Nat.le_refl _, fun _ _ _ => rfl⟩
theorem grownBy_drew {W w : World} {row : Option Nat} (h : W.grownBy w row) : W.grownBy w.drew row := ⟨h.os, h.tape, h.output, h.size, h.block⟩
theorem grownBy_alloc' {W w : World} {row : Option Nat} (h : W.grownBy w row) (o : Obj) : W.grownBy (w.alloc o) row :=
  ⟨h.os, h.tape, h.output, by have := h.size; simp; omega, fun k hk hr => by rw [Below.heap_alloc _ _ _ (by have := h.size; omega)]; exact h.block k hk hr⟩
theorem grownBy_below {W w w' : World} {row : Option Nat} (h : W.grownBy w row) (hb : Below w.heap.size w w') : W.grownBy w' row :=
  ⟨hb.os.trans h.os, hb.tape.trans h.tape, hb.output.trans h.output, Nat.le_trans h.size hb.size, fun k hk hr => by rw [hb.block k (Nat.lt_of_lt_of_le hk h.size)]; exact h.block k hk hr⟩

/-- 'out = append(out, x)' as a step of a region. -/
theorem step_push {P : Program} (w0 : World) {ops : Array Oper} {o : Oper} {a : Act} {K : Act → World → Prop} {Q : Exit → Act → World → Prop} {E : Prop} (hgd : o.guard = none) (s x : Operand) (t : TypeId)
    (ho : o.op = .call { callee := .builtin .append, args := #[s, x], argTypes := #[t, t] })
    (e : TypeId) (i : TypeInfo) (z : Value) (size bytes : Nat) (ht : P.underlying t = some (.slice e)) (hi : P.info? e = some i) (hz : i.zero = some z)
    (hsize : i.size = size) (hby : i.bytes = bytes) (hzs : z.cells.size = size) (hsz : 0 < size)
    (v : Value) (n : Nat) (xs : List Value) (hs : a.eval s = v) (hown : w0.ownsRow 0 e size v n xs)
    (news : Array Value) (e2 : TypeId) (b : Nat) (hb : w0.heap.size = b) (hx : a.eval x = .slice (some ⟨b, 0, none⟩) 1 1) (hl : news.size = size) (h1 : ∀ u ∈ news.toList, u.oneCell' = true)
    (h63 : (n + 1) * bytes ≤ 140737488355328) (hn : n + 1 ≤ maxLen)
    (h : ∀ g cap w', w'.ownsRow 0 e size (.slice (some ⟨g, 0, none⟩) (n + 1) cap) (n + 1) (xs ++ news.toList) → Pushed w0 w' v g → K (a.put o.dst (.slice (some ⟨g, 0, none⟩) (n + 1) cap)) w') :
    if Region.wanted o (yielded ops a.tmps) = true then Oper.wp P o a (w0.alloc (.cells news e2)) K Q else E := by
  subst hb
  refine step_append_lies _ hgd s x t ho 0 e i z size bytes ht hi hz hsize hby hzs hsz v n xs hs (hown.alloc _) ⟨w0.heap.size, 0, none⟩ 1 1 news.toList hx (by simpa using hl)
    (World.news_of_block (heap_alloc_new w0 _)) h1 (by omega) hn h63 (Nat.zero_le _) _ rfl ?_
  intro g cap w' hown' hg hat hlt
  refine h g cap w' hown' ⟨⟨hg.os, hg.tape, hg.output, ?_, ?_⟩, ?_, hlt⟩
  · have := hg.size; simp at this; omega
  · intro k hk hne
    rw [hg.block k (by simp; omega) hne]
    exact Below.heap_alloc _ _ _ hk
  · rcases hat with h1 | h1
    · exact Or.inl h1
    · right; simp at h1; omega

end Go.Proofs.Ytdmldnpadojflaa
