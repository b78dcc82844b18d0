/-
  No cell of these rows narrows 'for every input' (looked for: loops, veiled, ifaces, maps, wideKeys, modest, calm, conditions, laid).
  DERIVED. THE GIVEN ROWS OF THIS SEAT. 7 by the template 'for every input the law returns true; each argument reads behind the call as it read before'; 0 by the template 'total and deterministic' (their statements: YtjmeakfjfpnciaaTotals.lean).
  GIVEN WITH THE SEED: the statements are not yours to turn. If you find one false, say at which input.
  Laid BY PROGRAM, IN A SANDBOX (cutbox-rows.mjs): the forced cells as the released guide's own fill.sh prints them over the translation 792e5239cb7ec465… (all of the seat's roots in one cut). By AI agents, Wed Nov 11 2026. No macro, syntax, notation, axiom, sorry.
-/
import Derived.Test.YtjmeakfjfpnciaaChecked
import GoSem.Claim
import GoSem.ClaimJoined
import GoSem.ClaimMapViews
import Derived.JoinedTies
import Derived.KernelRfl
namespace Go.Proofs.Ytjmeakfjfpnciaa
/- THE CELL 'sum', in the pinned program and in every row, IS THE sha256 OF THE DUMP (.gsa) THAT YtjmeakfjfpnciaaProg.lean LOADS. Nothing in Lean hashes anything: it is a label: what it is worth is what the hold of that sum in a sandbox is worth. -/
noncomputable def Try.pinned : Pinned := { name := "ytjmeakfjfpnciaa", sum := "792e5239cb7ec46595444e988db2a26e7ab35f01d9ca40041568c32e60f049b3", checked := Try.checked }
namespace Rows
def none {H : Type} : Left H := { results := [], args := [] }

/-- 'hustingslaw7.BoardMeets': WHATEVER THE INPUT: true; the input reads as it did. -/
def boardMeetsSpec : ChangeSpec := { name := "boardMeets", fn := fun _ => fun
  | [d1, d2, d3, d4, d5, d6, d7] => { results := [.lit (.bool true)], args := [d1, d2, d3, d4, d5, d6, d7] }
  | _ => none }
def boardMeetsRow : OpenClaim := { program := "ytjmeakfjfpnciaa", sum := "792e5239cb7ec46595444e988db2a26e7ab35f01d9ca40041568c32e60f049b3", func := "hustings/hustingslaw7.BoardMeets", spec := "boardMeets", unfollowed := true, recurses := true, apart := false }
def BoardMeetsSaid : Prop := boardMeetsRow.holds Try.pinned (OpenSpec.ofChange boardMeetsSpec)

/-- ITS FALSE NEIGHBOUR: 'it returns false'. Refute it at one input. -/
def boardMeetsWrong : ChangeSpec := { name := "boardMeets", fn := fun _ => fun
  | [d1, d2, d3, d4, d5, d6, d7] => { results := [.lit (.bool false)], args := [d1, d2, d3, d4, d5, d6, d7] }
  | _ => none }
def BoardMeetsWrongFalsely : Prop := boardMeetsRow.holds Try.pinned (OpenSpec.ofChange boardMeetsWrong)

/-- 'hustingslaw7.BoardBinds': WHATEVER THE INPUT: true; the input reads as it did. -/
def boardBindsSpec : ChangeSpec := { name := "boardBinds", fn := fun _ => fun
  | [d1, d2, d3, d4, d5, d6] => { results := [.lit (.bool true)], args := [d1, d2, d3, d4, d5, d6] }
  | _ => none }
def boardBindsRow : OpenClaim := { program := "ytjmeakfjfpnciaa", sum := "792e5239cb7ec46595444e988db2a26e7ab35f01d9ca40041568c32e60f049b3", func := "hustings/hustingslaw7.BoardBinds", spec := "boardBinds", unfollowed := true, recurses := true, apart := false }
def BoardBindsSaid : Prop := boardBindsRow.holds Try.pinned (OpenSpec.ofChange boardBindsSpec)

/-- ITS FALSE NEIGHBOUR: 'it returns false'. Refute it at one input. -/
def boardBindsWrong : ChangeSpec := { name := "boardBinds", fn := fun _ => fun
  | [d1, d2, d3, d4, d5, d6] => { results := [.lit (.bool false)], args := [d1, d2, d3, d4, d5, d6] }
  | _ => none }
def BoardBindsWrongFalsely : Prop := boardBindsRow.holds Try.pinned (OpenSpec.ofChange boardBindsWrong)

/-- 'hustingslaw6.TrustHides': WHATEVER THE INPUT: true; the input reads as it did. -/
def trustHidesSpec : ChangeSpec := { name := "trustHides", fn := fun _ => fun
  | [d1, d2, d3, d4, d5] => { results := [.lit (.bool true)], args := [d1, d2, d3, d4, d5] }
  | _ => none }
def trustHidesRow : OpenClaim := { program := "ytjmeakfjfpnciaa", sum := "792e5239cb7ec46595444e988db2a26e7ab35f01d9ca40041568c32e60f049b3", func := "hustings/hustingslaw6.TrustHides", spec := "trustHides", inPlace := ["math/bits.Add64", "math/bits.Sub64"], unfollowed := true, recurses := true, apart := false }
def TrustHidesSaid : Prop := trustHidesRow.holds Try.pinned (OpenSpec.ofChange trustHidesSpec)

/-- ITS FALSE NEIGHBOUR: 'it returns false'. Refute it at one input. -/
def trustHidesWrong : ChangeSpec := { name := "trustHides", fn := fun _ => fun
  | [d1, d2, d3, d4, d5] => { results := [.lit (.bool false)], args := [d1, d2, d3, d4, d5] }
  | _ => none }
def TrustHidesWrongFalsely : Prop := trustHidesRow.holds Try.pinned (OpenSpec.ofChange trustHidesWrong)

/-- 'hustingslaw6.TrustJoins': WHATEVER THE INPUT: true; the input reads as it did. -/
def trustJoinsSpec : ChangeSpec := { name := "trustJoins", fn := fun _ => fun
  | [d1, d2, d3, d4, d5] => { results := [.lit (.bool true)], args := [d1, d2, d3, d4, d5] }
  | _ => none }
def trustJoinsRow : OpenClaim := { program := "ytjmeakfjfpnciaa", sum := "792e5239cb7ec46595444e988db2a26e7ab35f01d9ca40041568c32e60f049b3", func := "hustings/hustingslaw6.TrustJoins", spec := "trustJoins", inPlace := ["math/bits.Add64", "math/bits.Sub64"], unfollowed := true, recurses := true, apart := false }
def TrustJoinsSaid : Prop := trustJoinsRow.holds Try.pinned (OpenSpec.ofChange trustJoinsSpec)

/-- ITS FALSE NEIGHBOUR: 'it returns false'. Refute it at one input. -/
def trustJoinsWrong : ChangeSpec := { name := "trustJoins", fn := fun _ => fun
  | [d1, d2, d3, d4, d5] => { results := [.lit (.bool false)], args := [d1, d2, d3, d4, d5] }
  | _ => none }
def TrustJoinsWrongFalsely : Prop := trustJoinsRow.holds Try.pinned (OpenSpec.ofChange trustJoinsWrong)

/-- 'hustingslaw12.TallyKeys': WHATEVER THE INPUT: true; the input reads as it did. -/
def tallyKeysSpec : ChangeSpec := { name := "tallyKeys", fn := fun _ => fun
  | [d] => { results := [.lit (.bool true)], args := [d] }
  | _ => none }
def tallyKeysRow : OpenClaim := { program := "ytjmeakfjfpnciaa", sum := "792e5239cb7ec46595444e988db2a26e7ab35f01d9ca40041568c32e60f049b3", func := "hustings/hustingslaw12.TallyKeys", spec := "tallyKeys", inPlace := ["math/bits.Add64", "math/bits.Sub64"], unfollowed := true, recurses := true, apart := false }
def TallyKeysSaid : Prop := tallyKeysRow.holds Try.pinned (OpenSpec.ofChange tallyKeysSpec)

/-- ITS FALSE NEIGHBOUR: 'it returns false'. Refute it at one input. -/
def tallyKeysWrong : ChangeSpec := { name := "tallyKeys", fn := fun _ => fun
  | [d] => { results := [.lit (.bool false)], args := [d] }
  | _ => none }
def TallyKeysWrongFalsely : Prop := tallyKeysRow.holds Try.pinned (OpenSpec.ofChange tallyKeysWrong)

/-- 'hustingslaw6.TrustShares': WHATEVER THE INPUT: true; the input reads as it did. -/
def trustSharesSpec : ChangeSpec := { name := "trustShares", fn := fun _ => fun
  | [d1, d2, d3, d4, d5] => { results := [.lit (.bool true)], args := [d1, d2, d3, d4, d5] }
  | _ => none }
def trustSharesRow : OpenClaim := { program := "ytjmeakfjfpnciaa", sum := "792e5239cb7ec46595444e988db2a26e7ab35f01d9ca40041568c32e60f049b3", func := "hustings/hustingslaw6.TrustShares", spec := "trustShares", inPlace := ["internal/abi.NoEscape", "math/bits.Add64", "math/bits.Sub64"], unfollowed := true, recurses := true, apart := false }
def TrustSharesSaid : Prop := trustSharesRow.holds Try.pinned (OpenSpec.ofChange trustSharesSpec)

/-- ITS FALSE NEIGHBOUR: 'it returns false'. Refute it at one input. -/
def trustSharesWrong : ChangeSpec := { name := "trustShares", fn := fun _ => fun
  | [d1, d2, d3, d4, d5] => { results := [.lit (.bool false)], args := [d1, d2, d3, d4, d5] }
  | _ => none }
def TrustSharesWrongFalsely : Prop := trustSharesRow.holds Try.pinned (OpenSpec.ofChange trustSharesWrong)

/-- 'hustingslaw7.BoardTrue': WHATEVER THE INPUT: true; the input reads as it did. -/
def boardTrueSpec : ChangeSpec := { name := "boardTrue", fn := fun _ => fun
  | [d1, d2, d3] => { results := [.lit (.bool true)], args := [d1, d2, d3] }
  | _ => none }
def boardTrueRow : OpenClaim := { program := "ytjmeakfjfpnciaa", sum := "792e5239cb7ec46595444e988db2a26e7ab35f01d9ca40041568c32e60f049b3", func := "hustings/hustingslaw7.BoardTrue", spec := "boardTrue", inPlace := ["internal/abi.NoEscape", "internal/bytealg.MakeNoZero"], unfollowed := true, recurses := true, apart := false }
def BoardTrueSaid : Prop := boardTrueRow.holds Try.pinned (OpenSpec.ofChange boardTrueSpec)

/-- ITS FALSE NEIGHBOUR: 'it returns false'. Refute it at one input. -/
def boardTrueWrong : ChangeSpec := { name := "boardTrue", fn := fun _ => fun
  | [d1, d2, d3] => { results := [.lit (.bool false)], args := [d1, d2, d3] }
  | _ => none }
def BoardTrueWrongFalsely : Prop := boardTrueRow.holds Try.pinned (OpenSpec.ofChange boardTrueWrong)

/- THE SECOND FORM. 'bulk': how many values and letters a reading holds, each counted each time it is reached (what is shared counts as often as it is met; a slice's spare places count too). A statement '..UptoSaid' is the law's where the arguments, and the package variables that the reading takes, are together of bulk at most 1048576: NARROWER than '..Said'. Prove '..Said' where nothing that the law and all that it calls make is longer than what came in: it says more and counts as full. Else prove '..UptoSaid'. A law counts once. -/
mutual
def uptoBulk {H : Type} : DataW H → Nat
  | .lit (.string bytes) => bytes.length + 1
  | .lit _ => 1
  | .nil => 1
  | .ptr d => uptoBulk d + 1
  | .slice elems spare => uptoBulkAll elems + uptoBulkAll spare + 1
  | .agg parts => uptoBulkAll parts + 1
  | .iface _ d => uptoBulk d + 1
  | .map entries => uptoBulkEntries entries + 1
  | .held _ => 1
def uptoBulkAll {H : Type} : List (DataW H) → Nat
  | [] => 0
  | d :: r => uptoBulk d + uptoBulkAll r
def uptoBulkEntries {H : Type} : List (Lit × DataW H) → Nat
  | [] => 0
  | x :: r => uptoBulkEntry x + uptoBulkEntries r
def uptoBulkEntry {H : Type} : Lit × DataW H → Nat
  | (.string bytes, d) => bytes.length + uptoBulk d + 1
  | (_, d) => uptoBulk d + 1
 end
def uptoSmall : (H : Type) → List (DataW H) → Bool := fun _ ds => decide (uptoBulkAll ds ≤ 1048576)
def OpenSpec.upto (s : _root_.Go.ChangeSpec) : _root_.Go.OpenSpec := { _root_.Go.OpenSpec.ofChange s with cond := some uptoSmall }

/-- 'hustingslaw7.BoardMeets', WHERE WHAT IT READS IS OF BULK AT MOST 1048576: true; the input reads as it did. -/
def boardMeetsUptoRow : OpenClaim := { program := "ytjmeakfjfpnciaa", sum := "792e5239cb7ec46595444e988db2a26e7ab35f01d9ca40041568c32e60f049b3", func := "hustings/hustingslaw7.BoardMeets", spec := "boardMeets", unfollowed := true, recurses := true, apart := false, narrowed := true }
def BoardMeetsUptoSaid : Prop := boardMeetsUptoRow.holds Try.pinned (OpenSpec.upto boardMeetsSpec)

/-- 'hustingslaw7.BoardBinds', WHERE WHAT IT READS IS OF BULK AT MOST 1048576: true; the input reads as it did. -/
def boardBindsUptoRow : OpenClaim := { program := "ytjmeakfjfpnciaa", sum := "792e5239cb7ec46595444e988db2a26e7ab35f01d9ca40041568c32e60f049b3", func := "hustings/hustingslaw7.BoardBinds", spec := "boardBinds", unfollowed := true, recurses := true, apart := false, narrowed := true }
def BoardBindsUptoSaid : Prop := boardBindsUptoRow.holds Try.pinned (OpenSpec.upto boardBindsSpec)

/-- 'hustingslaw6.TrustHides', WHERE WHAT IT READS IS OF BULK AT MOST 1048576: true; the input reads as it did. -/
def trustHidesUptoRow : OpenClaim := { program := "ytjmeakfjfpnciaa", sum := "792e5239cb7ec46595444e988db2a26e7ab35f01d9ca40041568c32e60f049b3", func := "hustings/hustingslaw6.TrustHides", spec := "trustHides", inPlace := ["math/bits.Add64", "math/bits.Sub64"], unfollowed := true, recurses := true, apart := false, narrowed := true }
def TrustHidesUptoSaid : Prop := trustHidesUptoRow.holds Try.pinned (OpenSpec.upto trustHidesSpec)

/-- 'hustingslaw6.TrustJoins', WHERE WHAT IT READS IS OF BULK AT MOST 1048576: true; the input reads as it did. -/
def trustJoinsUptoRow : OpenClaim := { program := "ytjmeakfjfpnciaa", sum := "792e5239cb7ec46595444e988db2a26e7ab35f01d9ca40041568c32e60f049b3", func := "hustings/hustingslaw6.TrustJoins", spec := "trustJoins", inPlace := ["math/bits.Add64", "math/bits.Sub64"], unfollowed := true, recurses := true, apart := false, narrowed := true }
def TrustJoinsUptoSaid : Prop := trustJoinsUptoRow.holds Try.pinned (OpenSpec.upto trustJoinsSpec)

/-- 'hustingslaw12.TallyKeys', WHERE WHAT IT READS IS OF BULK AT MOST 1048576: true; the input reads as it did. -/
def tallyKeysUptoRow : OpenClaim := { program := "ytjmeakfjfpnciaa", sum := "792e5239cb7ec46595444e988db2a26e7ab35f01d9ca40041568c32e60f049b3", func := "hustings/hustingslaw12.TallyKeys", spec := "tallyKeys", inPlace := ["math/bits.Add64", "math/bits.Sub64"], unfollowed := true, recurses := true, apart := false, narrowed := true }
def TallyKeysUptoSaid : Prop := tallyKeysUptoRow.holds Try.pinned (OpenSpec.upto tallyKeysSpec)

/-- 'hustingslaw6.TrustShares', WHERE WHAT IT READS IS OF BULK AT MOST 1048576: true; the input reads as it did. -/
def trustSharesUptoRow : OpenClaim := { program := "ytjmeakfjfpnciaa", sum := "792e5239cb7ec46595444e988db2a26e7ab35f01d9ca40041568c32e60f049b3", func := "hustings/hustingslaw6.TrustShares", spec := "trustShares", inPlace := ["internal/abi.NoEscape", "math/bits.Add64", "math/bits.Sub64"], unfollowed := true, recurses := true, apart := false, narrowed := true }
def TrustSharesUptoSaid : Prop := trustSharesUptoRow.holds Try.pinned (OpenSpec.upto trustSharesSpec)

/-- 'hustingslaw7.BoardTrue', WHERE WHAT IT READS IS OF BULK AT MOST 1048576: true; the input reads as it did. -/
def boardTrueUptoRow : OpenClaim := { program := "ytjmeakfjfpnciaa", sum := "792e5239cb7ec46595444e988db2a26e7ab35f01d9ca40041568c32e60f049b3", func := "hustings/hustingslaw7.BoardTrue", spec := "boardTrue", inPlace := ["internal/abi.NoEscape", "internal/bytealg.MakeNoZero"], unfollowed := true, recurses := true, apart := false, narrowed := true }
def BoardTrueUptoSaid : Prop := boardTrueUptoRow.holds Try.pinned (OpenSpec.upto boardTrueSpec)

end Rows
end Go.Proofs.Ytjmeakfjfpnciaa
