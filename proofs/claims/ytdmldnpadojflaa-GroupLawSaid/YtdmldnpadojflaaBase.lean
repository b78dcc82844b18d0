/- Small facts on worlds for the walks of this seat. No condition beyond those that each fact names. -/
import Derived.WalkKit
import Derived.WalkSpells
import Derived.WalkLawsBesides
import Derived.Lib.Hide
import Derived.BigQuiet
namespace Go.Proofs.Ytdmldnpadojflaa
open Go.RowKit

/-- All old cells and all old marks read as before. -/
theorem bcell {W w1 : World} {B : Nat} (hb : Below B W w1) : (∀ b o, b < B → w1.cell? ⟨b, o, none⟩ = W.cell? ⟨b, o, none⟩) ∧ (∀ b o, b < B → w1.frozen? ⟨b, o, none⟩ = W.frozen? ⟨b, o, none⟩) :=
  ⟨fun b o h => hb.cell (p := ⟨b, o, none⟩) h, fun b o h => hb.frozen (p := ⟨b, o, none⟩) h⟩

theorem below_up {W w w1 : World} (h : Below W.heap.size W w) (h1 : Below w.heap.size w w1) : Below W.heap.size W w1 :=
  h.trans (h1.mono h.size)

theorem below_grown {w w' : World} (h : Below w.heap.size w w') : w.grownBy w' none :=
  ⟨h.os, h.tape, h.output, h.size, fun k hk _ => h.block k hk⟩

theorem ret_int {k : IntKind} {a b : Int} (h : a = b) : Ending.returned (.int k a) = .returned (.int k b) := by rw [h]
theorem ret_bool {a b : Bool} (h : a = b) : Ending.returned (.bool a) = .returned (.bool b) := by rw [h]

/-- A slice value of one-cell elements, read in a world below block B: its n elements are cs. -/
def Sl (w : World) (B : Nat) (a : Option Addr) (cs : List Value) : Prop :=
  cs = [] ∨ ∃ b off, a = some ⟨b, off, none⟩ ∧ b < B ∧ ∀ i v, cs[i]? = some v → w.cell? ⟨b, off + i, none⟩ = some v

theorem Sl.at {w : World} {B : Nat} {a : Option Addr} {cs : List Value} (h : Sl w B a cs) (i : Nat) (hi : i < cs.length) :
    ∃ b off, a = some ⟨b, off, none⟩ ∧ b < B ∧ w.cell? ⟨b, off + i, none⟩ = some cs[i] := by
  rcases h with rfl | ⟨b, off, rfl, hb, hc⟩
  · simp at hi
  · exact ⟨b, off, rfl, hb, hc i _ (List.getElem?_eq_getElem hi)⟩

theorem Sl.below {w w1 : World} {B : Nat} {a : Option Addr} {cs : List Value} (h : Sl w B a cs) (hb : Below B w w1) : Sl w1 B a cs := by
  rcases h with rfl | ⟨b, off, rfl, hB, hc⟩
  · exact Or.inl rfl
  · exact Or.inr ⟨b, off, rfl, hB, fun i v hv => by rw [hb.cell (p := ⟨b, off + i, none⟩) hB]; exact hc i v hv⟩

/-! A region that draws its order, whose operations only read, and whose callees only make memory: one walk, in the order of the text. -/
structure Over (W : World) where
  w : World
  h : Below W.heap.size W w

instance (W : World) : Nonempty (Over W) := ⟨⟨W, Below.refl _ _⟩⟩

theorem Over.cell {W : World} (E : Over W) {b : Nat} (o : Nat) (h : b < W.heap.size) : E.w.cell? ⟨b, o, none⟩ = W.cell? ⟨b, o, none⟩ := E.h.cell (p := ⟨b, o, none⟩) h

theorem wp_region_over {P : Program} {id : Nat} {Q : Exit → Act → World → Prop} {a : Act} {w : World} {l : List Oper} (hm : P.follows .mixedOrders = true) (hB : Region.lexB .any l.toArray = true)
    (h : wpQuiet P l.toArray (fun w' => ∃ E : Over w, w' = E.w) (fun a' => ∀ w', (∃ E : Over w, w' = E.w) → Q .normal a' w') l a) : (Code.region id l.toArray true).wp P Q a w :=
  wp_region_quiet (C := fun w' => ∃ E : Over w, w' = E.w) hm hB ⟨⟨_, (Below.refl _ _).drew⟩, rfl⟩ (by simpa using h)

/-- A callee's contract, met in a world over W. -/
theorem calls_over {P : Program} {f : FuncId} {args : Array Value} {W : World} {E : Over W} {v : Value}
    (h : Calls P f args E.w fun e w' => e = .returned v ∧ Below E.w.heap.size E.w w') : Calls P f args E.w fun e w'' => e = .returned v ∧ ∃ E' : Over W, w'' = E'.w :=
  h.mono fun _ w' ⟨he, hb⟩ => ⟨he, ⟨w', below_up E.h hb⟩, rfl⟩

theorem Sl.mono {w : World} {B B' : Nat} {a : Option Addr} {cs : List Value} (h : Sl w B a cs) (hB : B ≤ B') : Sl w B' a cs := by
  rcases h with rfl | ⟨b, off, rfl, hb, hc⟩
  · exact Or.inl rfl
  · exact Or.inr ⟨b, off, rfl, by omega, hc⟩

theorem Sl.up {W w : World} {a : Option Addr} {cs : List Value} (h : Sl W W.heap.size a cs) (hb : Below W.heap.size W w) : Sl w w.heap.size a cs :=
  (h.below hb).mono hb.size

theorem Sl.of_block {w : World} {b : Nat} {cs : Array Value} {t : TypeId} {fr : Nat × Nat} (h : w.heap[b]? = some (.cells cs t fr)) : Sl w w.heap.size (some ⟨b, 0, none⟩) cs.toList := by
  refine Or.inr ⟨b, 0, rfl, (Array.getElem?_eq_some_iff.1 h).1, fun i v hv => ?_⟩
  simp only [World.cell?, h]
  simpa using hv

theorem Sl.draw {w : World} {B : Nat} {a : Option Addr} {cs : List Value} (h : Sl w B a cs) : Sl w.drew B a cs := h

end Go.Proofs.Ytdmldnpadojflaa
