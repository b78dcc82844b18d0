/- What a statement about the group carries from call to call: the document's group value, and two numbers. No condition. -/
import Derived.Test.YtdmldnpadojflaaLawTells
import Derived.Test.YtdmldnpadojflaaRefLow
import Derived.Test.YtdmldnpadojflaaRefMem
namespace Go.Proofs.Ytdmldnpadojflaa
open Go.ChangeShapes Go.WideShapes Go.ChangeAt Go.RowKit

/-- The document's group value, as the program's value. -/
def refG (sz q p : Nat) (aq ap : Option Addr) (cq cp : Nat) : List Value := [.int .i64 (sz : Int), .slice aq (dl q) cq, .slice ap (dl p) cp]

structure Car (w W : World) (zb : Nat) (t : TypeId) (sz q p : Nat) (aq ap : Option Addr) (cq cp : Nat) (ax ay : Option Addr) (x y : Nat) : Prop where
  b : Below w.heap.size w W
  z : Bx W zb t [.int .i64 (sz : Int), .slice aq (dl q) cq, .slice ap (dl p) cp]
  q : NumAt W aq q
  p : NumAt W ap p
  x : NumAt W ax x
  y : NumAt W ay y

theorem Car.up {w W W' : World} {zb : Nat} {t : TypeId} {sz q p : Nat} {aq ap : Option Addr} {cq cp : Nat} {ax ay : Option Addr} {x y : Nat}
    (h : Car w W zb t sz q p aq ap cq cp ax ay x y) (u : Below W.heap.size W W') : Car w W' zb t sz q p aq ap cq cp ax ay x y :=
  ⟨below_up h.b u, h.z.up u, h.q.up u, h.p.up u, h.x.up u, h.y.up u⟩

theorem Car.setx {w W W' : World} {zb : Nat} {t : TypeId} {sz q p : Nat} {aq ap : Option Addr} {cq cp : Nat} {ax ay : Option Addr} {x y : Nat}
    (h : Car w W zb t sz q p aq ap cq cp ax ay x y) (u : Below W.heap.size W W') {ax' : Option Addr} {x' : Nat} (hx : NumAt W' ax' x') : Car w W' zb t sz q p aq ap cq cp ax' ay x' y :=
  ⟨below_up h.b u, h.z.up u, h.q.up u, h.p.up u, hx, h.y.up u⟩

theorem Car.sety {w W W' : World} {zb : Nat} {t : TypeId} {sz q p : Nat} {aq ap : Option Addr} {cq cp : Nat} {ax ay : Option Addr} {x y : Nat}
    (h : Car w W zb t sz q p aq ap cq cp ax ay x y) (u : Below W.heap.size W W') {ay' : Option Addr} {y' : Nat} (hy : NumAt W' ay' y') : Car w W' zb t sz q p aq ap cq cp ax ay' x y' :=
  ⟨below_up h.b u, h.z.up u, h.q.up u, h.p.up u, h.x.up u, hy⟩


section
variable {H : Type} {enc : TypeId × Value → H} {P : Program} {w : World}
/-- An argument that is a slice of strings. -/
theorem open_Sl_strings {t e : TypeId} {a : Option Addr} {len cap : Nat} {d : DataW H} {p : List MemPlace} (ht : P.underlying t = some (.slice e)) (he : P.underlying e = some .string) (hc : P.cellsOf e = 1)
    (h : DataW.Trod enc P w 0 (fun _ => true) true t (.slice a len cap) d p) (hlt : ∀ x ∈ p, x.block < w.heap.size) :
    ∃ bs : List ByteArray, len = bs.length ∧ Sl w w.heap.size a (bs.map Value.string) := by
  obtain ⟨cs, hl, hs, hk⟩ := open_Sl_any ht hc h hlt
  obtain ⟨bs, rfl⟩ := list_shape Value.string cs (by
    intro c hcm
    obtain ⟨i, hi⟩ := List.getElem?_of_mem hcm
    rcases hk with h0 | ⟨n, ys, rest, _, _, _, hy⟩
    · rw [h0] at hl
      have := List.eq_nil_of_length_eq_zero hl.symm
      subst this
      simp at hcm
    · obtain ⟨y, _, ht2⟩ := hy i c hi
      obtain ⟨b, hb, _⟩ := DataW.trod_string he ht2
      exact ⟨b, by simpa using hb⟩)
  exact ⟨bs, by simpa using hl, hs⟩
end

end Go.Proofs.Ytdmldnpadojflaa
