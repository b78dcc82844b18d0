/- What a statement about the group carries from call to call: the document's group value, and two numbers. No condition. -/
import Derived.Test.YtdmldnpadojflaaLawTells
import Derived.Test.YtdmldnpadojflaaRefLow
import Derived.Test.YtdmldnpadojflaaRefMem
namespace Go.Proofs.Ytdmldnpadojflaa
open Go.RowKit

/-- The document's group value, as the program's value. -/
def refG (sz q p : Nat) (aq ap : Option Addr) (cq cp : Nat) : List Value := [.int .i64 (sz : Int), .slice aq (dl q) cq, .slice ap (dl p) cp]

structure Car (w W : World) (zb : Nat) (t : TypeId) (sz q p : Nat) (aq ap : Option Addr) (cq cp : Nat) (ax ay : Option Addr) (x y : Nat) : Prop where
  b : Below w.heap.size w W
  z : Bx W zb t [.int .i64 (sz : Int), .slice aq (dl q) cq, .slice ap (dl p) cp]
  q : NumAt W aq q
  p : NumAt W ap p
  x : NumAt W ax x
  y : NumAt W ay y

theorem Car.up {w W W' : World} {zb : Nat} {t : TypeId} {sz q p : Nat} {aq ap : Option Addr} {cq cp : Nat} {ax ay : Option Addr} {x y : Nat}
    (h : Car w W zb t sz q p aq ap cq cp ax ay x y) (u : Below W.heap.size W W') : Car w W' zb t sz q p aq ap cq cp ax ay x y :=
  ⟨below_up h.b u, h.z.up u, h.q.up u, h.p.up u, h.x.up u, h.y.up u⟩

theorem Car.setx {w W W' : World} {zb : Nat} {t : TypeId} {sz q p : Nat} {aq ap : Option Addr} {cq cp : Nat} {ax ay : Option Addr} {x y : Nat}
    (h : Car w W zb t sz q p aq ap cq cp ax ay x y) (u : Below W.heap.size W W') {ax' : Option Addr} {x' : Nat} (hx : NumAt W' ax' x') : Car w W' zb t sz q p aq ap cq cp ax' ay x' y :=
  ⟨below_up h.b u, h.z.up u, h.q.up u, h.p.up u, hx, h.y.up u⟩

theorem Car.sety {w W W' : World} {zb : Nat} {t : TypeId} {sz q p : Nat} {aq ap : Option Addr} {cq cp : Nat} {ax ay : Option Addr} {x y : Nat}
    (h : Car w W zb t sz q p aq ap cq cp ax ay x y) (u : Below W.heap.size W W') {ay' : Option Addr} {y' : Nat} (hy : NumAt W' ay' y') : Car w W' zb t sz q p aq ap cq cp ax ay' x y' :=
  ⟨below_up h.b u, h.z.up u, h.q.up u, h.p.up u, h.x.up u, hy⟩


end Go.Proofs.Ytdmldnpadojflaa
