/- What a network does to rows. No condition. -/
import Derived.Test.YtbjhcpchljjmhaaNetPlain
namespace Go.Proofs.Ytbjhcpchljjmhaa

def swapI (l : List Int) (x y : Nat) : List Int := (l.set x (l.getD y 0)).set y (l.getD x 0)
theorem swapI_length (l : List Int) (x y : Nat) : (swapI l x y).length = l.length := by simp [swapI]

/-- After the first j gates. -/
def runTo (gs : List (Int × Int)) (bs : List Bool) (l : List Int) : Nat → List Int
  | 0 => l
  | j + 1 => if bs.getD j false then swapI (runTo gs bs l j) (gs.getD j (0, 0)).1.toNat (gs.getD j (0, 0)).2.toNat else runTo gs bs l j

theorem runTo_length (gs : List (Int × Int)) (bs : List Bool) (l : List Int) : ∀ j, (runTo gs bs l j).length = l.length
  | 0 => rfl
  | j + 1 => by
    rw [runTo]
    split
    · rw [swapI_length, runTo_length gs bs l j]
    · exact runTo_length gs bs l j

end Go.Proofs.Ytbjhcpchljjmhaa
