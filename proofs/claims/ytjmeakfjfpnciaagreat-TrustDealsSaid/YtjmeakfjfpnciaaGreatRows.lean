/-
  No cell of these rows narrows 'for every input' (looked for: loops, veiled, ifaces, maps, wideKeys, modest, calm, conditions, laid).
  DERIVED. THE GIVEN ROWS OF THIS SEAT. 5 by the template 'for every input the law returns true; each argument reads behind the call as it read before'; 0 by the template 'total and deterministic' (their statements: YtjmeakfjfpnciaaGreatTotals.lean).
  GIVEN WITH THE SEED: the statements are not yours to turn. If you find one false, say at which input.
  Laid BY PROGRAM, IN A SANDBOX (cutbox-rows.mjs): the forced cells as the released guide's own fill.sh prints them over the translation b9e44b39202b951b… (all of the seat's roots in one cut). By AI agents, Wed Nov 11 2026. No macro, syntax, notation, axiom, sorry.
-/
import Derived.Test.YtjmeakfjfpnciaaGreatChecked
import GoSem.Claim
import GoSem.ClaimJoined
import GoSem.ClaimMapViews
import Derived.JoinedTies
import Derived.KernelRfl
namespace Go.Proofs.YtjmeakfjfpnciaaGreat
/- THE CELL 'sum', in the pinned program and in every row, IS THE sha256 OF THE DUMP (.gsa) THAT YtjmeakfjfpnciaaGreatProg.lean LOADS. Nothing in Lean hashes anything: it is a label: what it is worth is what the hold of that sum in a sandbox is worth. -/
noncomputable def Tryz.pinned : Pinned := { name := "ytjmeakfjfpnciaagreat", sum := "b9e44b39202b951b39619e274acea445ad4ec742d6fadc189e4b3b690b32859c", checked := Tryz.checked }
namespace Rows
def none {H : Type} : Left H := { results := [], args := [] }

/-- 'hustingslaw6.TrustDeals': WHATEVER THE INPUT: true; the input reads as it did. -/
def trustDealsSpec : ChangeSpec := { name := "trustDeals", fn := fun _ => fun
  | [d1, d2, d3, d4, d5, d6, d7] => { results := [.lit (.bool true)], args := [d1, d2, d3, d4, d5, d6, d7] }
  | _ => none }
def trustDealsRow : OpenClaim := { program := "ytjmeakfjfpnciaagreat", sum := "b9e44b39202b951b39619e274acea445ad4ec742d6fadc189e4b3b690b32859c", func := "hustings/hustingslaw6.TrustDeals", spec := "trustDeals", inPlace := ["internal/abi.NoEscape", "math/bits.Add64", "math/bits.Sub64"], recurses := true, plainKeys := false, apart := false }
def TrustDealsSaid : Prop := trustDealsRow.holds Tryz.pinned (OpenSpec.ofChange trustDealsSpec)

/-- ITS FALSE NEIGHBOUR: 'it returns false'. Refute it at one input. -/
def trustDealsWrong : ChangeSpec := { name := "trustDeals", fn := fun _ => fun
  | [d1, d2, d3, d4, d5, d6, d7] => { results := [.lit (.bool false)], args := [d1, d2, d3, d4, d5, d6, d7] }
  | _ => none }
def TrustDealsWrongFalsely : Prop := trustDealsRow.holds Tryz.pinned (OpenSpec.ofChange trustDealsWrong)

/-- 'hustingslaw6.TrustSettles': WHATEVER THE INPUT: true; the input reads as it did. -/
def trustSettlesSpec : ChangeSpec := { name := "trustSettles", fn := fun _ => fun
  | [d1, d2, d3, d4] => { results := [.lit (.bool true)], args := [d1, d2, d3, d4] }
  | _ => none }
def trustSettlesRow : OpenClaim := { program := "ytjmeakfjfpnciaagreat", sum := "b9e44b39202b951b39619e274acea445ad4ec742d6fadc189e4b3b690b32859c", func := "hustings/hustingslaw6.TrustSettles", spec := "trustSettles", inPlace := ["math/bits.Add64", "math/bits.Sub64", "internal/abi.NoEscape", "internal/bytealg.MakeNoZero"], unfollowed := true, recurses := true, plainKeys := false, apart := false }
def TrustSettlesSaid : Prop := trustSettlesRow.holds Tryz.pinned (OpenSpec.ofChange trustSettlesSpec)

/-- ITS FALSE NEIGHBOUR: 'it returns false'. Refute it at one input. -/
def trustSettlesWrong : ChangeSpec := { name := "trustSettles", fn := fun _ => fun
  | [d1, d2, d3, d4] => { results := [.lit (.bool false)], args := [d1, d2, d3, d4] }
  | _ => none }
def TrustSettlesWrongFalsely : Prop := trustSettlesRow.holds Tryz.pinned (OpenSpec.ofChange trustSettlesWrong)

/-- 'hustingslaw6.TrustStands': WHATEVER THE INPUT: true; the input reads as it did. -/
def trustStandsSpec : ChangeSpec := { name := "trustStands", fn := fun _ => fun
  | [d1, d2, d3, d4, d5, d6] => { results := [.lit (.bool true)], args := [d1, d2, d3, d4, d5, d6] }
  | _ => none }
def trustStandsRow : OpenClaim := { program := "ytjmeakfjfpnciaagreat", sum := "b9e44b39202b951b39619e274acea445ad4ec742d6fadc189e4b3b690b32859c", func := "hustings/hustingslaw6.TrustStands", spec := "trustStands", inPlace := ["internal/abi.NoEscape", "math/bits.Add64", "math/bits.Sub64", "internal/bytealg.MakeNoZero"], unfollowed := true, recurses := true, plainKeys := false, apart := false }
def TrustStandsSaid : Prop := trustStandsRow.holds Tryz.pinned (OpenSpec.ofChange trustStandsSpec)

/-- ITS FALSE NEIGHBOUR: 'it returns false'. Refute it at one input. -/
def trustStandsWrong : ChangeSpec := { name := "trustStands", fn := fun _ => fun
  | [d1, d2, d3, d4, d5, d6] => { results := [.lit (.bool false)], args := [d1, d2, d3, d4, d5, d6] }
  | _ => none }
def TrustStandsWrongFalsely : Prop := trustStandsRow.holds Tryz.pinned (OpenSpec.ofChange trustStandsWrong)

/-- 'hustingslaw6.TrustPlays': WHATEVER THE INPUT: true; the input reads as it did. -/
def trustPlaysSpec : ChangeSpec := { name := "trustPlays", fn := fun _ => fun
  | [d1, d2, d3, d4, d5] => { results := [.lit (.bool true)], args := [d1, d2, d3, d4, d5] }
  | _ => none }
def trustPlaysRow : OpenClaim := { program := "ytjmeakfjfpnciaagreat", sum := "b9e44b39202b951b39619e274acea445ad4ec742d6fadc189e4b3b690b32859c", func := "hustings/hustingslaw6.TrustPlays", spec := "trustPlays", inPlace := ["internal/abi.NoEscape", "math/bits.Add64", "math/bits.Sub64", "internal/bytealg.MakeNoZero"], unfollowed := true, recurses := true, plainKeys := false, apart := false }
def TrustPlaysSaid : Prop := trustPlaysRow.holds Tryz.pinned (OpenSpec.ofChange trustPlaysSpec)

/-- ITS FALSE NEIGHBOUR: 'it returns false'. Refute it at one input. -/
def trustPlaysWrong : ChangeSpec := { name := "trustPlays", fn := fun _ => fun
  | [d1, d2, d3, d4, d5] => { results := [.lit (.bool false)], args := [d1, d2, d3, d4, d5] }
  | _ => none }
def TrustPlaysWrongFalsely : Prop := trustPlaysRow.holds Tryz.pinned (OpenSpec.ofChange trustPlaysWrong)

/-- 'hustingslaw6.TrustKeys': WHATEVER THE INPUT: true; the input reads as it did. -/
def trustKeysSpec : ChangeSpec := { name := "trustKeys", fn := fun _ => fun
  | [d1, d2, d3, d4, d5] => { results := [.lit (.bool true)], args := [d1, d2, d3, d4, d5] }
  | _ => none }
def trustKeysRow : OpenClaim := { program := "ytjmeakfjfpnciaagreat", sum := "b9e44b39202b951b39619e274acea445ad4ec742d6fadc189e4b3b690b32859c", func := "hustings/hustingslaw6.TrustKeys", spec := "trustKeys", inPlace := ["internal/abi.NoEscape", "math/bits.Add64", "math/bits.Sub64", "internal/bytealg.MakeNoZero"], unfollowed := true, recurses := true, plainKeys := false, apart := false }
def TrustKeysSaid : Prop := trustKeysRow.holds Tryz.pinned (OpenSpec.ofChange trustKeysSpec)

/-- ITS FALSE NEIGHBOUR: 'it returns false'. Refute it at one input. -/
def trustKeysWrong : ChangeSpec := { name := "trustKeys", fn := fun _ => fun
  | [d1, d2, d3, d4, d5] => { results := [.lit (.bool false)], args := [d1, d2, d3, d4, d5] }
  | _ => none }
def TrustKeysWrongFalsely : Prop := trustKeysRow.holds Tryz.pinned (OpenSpec.ofChange trustKeysWrong)

/- THE SECOND FORM. 'bulk': how many values and letters a reading holds, each counted each time it is reached (what is shared counts as often as it is met; a slice's spare places count too). A statement '..UptoSaid' is the law's where the arguments, and the package variables that the reading takes, are together of bulk at most 1048576: NARROWER than '..Said'. Prove '..Said' where nothing that the law and all that it calls make is longer than what came in: it says more and counts as full. Else prove '..UptoSaid'. A law counts once. -/
mutual
def uptoBulk {H : Type} : DataW H → Nat
  | .lit (.string bytes) => bytes.length + 1
  | .lit _ => 1
  | .nil => 1
  | .ptr d => uptoBulk d + 1
  | .slice elems spare => uptoBulkAll elems + uptoBulkAll spare + 1
  | .agg parts => uptoBulkAll parts + 1
  | .iface _ d => uptoBulk d + 1
  | .map entries => uptoBulkEntries entries + 1
  | .held _ => 1
def uptoBulkAll {H : Type} : List (DataW H) → Nat
  | [] => 0
  | d :: r => uptoBulk d + uptoBulkAll r
def uptoBulkEntries {H : Type} : List (Lit × DataW H) → Nat
  | [] => 0
  | x :: r => uptoBulkEntry x + uptoBulkEntries r
def uptoBulkEntry {H : Type} : Lit × DataW H → Nat
  | (.string bytes, d) => bytes.length + uptoBulk d + 1
  | (_, d) => uptoBulk d + 1
 end
def uptoSmall : (H : Type) → List (DataW H) → Bool := fun _ ds => decide (uptoBulkAll ds ≤ 1048576)
def OpenSpec.upto (s : _root_.Go.ChangeSpec) : _root_.Go.OpenSpec := { _root_.Go.OpenSpec.ofChange s with cond := some uptoSmall }

/-- 'hustingslaw6.TrustDeals', WHERE WHAT IT READS IS OF BULK AT MOST 1048576: true; the input reads as it did. -/
def trustDealsUptoRow : OpenClaim := { program := "ytjmeakfjfpnciaagreat", sum := "b9e44b39202b951b39619e274acea445ad4ec742d6fadc189e4b3b690b32859c", func := "hustings/hustingslaw6.TrustDeals", spec := "trustDeals", inPlace := ["internal/abi.NoEscape", "math/bits.Add64", "math/bits.Sub64"], recurses := true, plainKeys := false, apart := false, narrowed := true }
def TrustDealsUptoSaid : Prop := trustDealsUptoRow.holds Tryz.pinned (OpenSpec.upto trustDealsSpec)

/-- 'hustingslaw6.TrustSettles', WHERE WHAT IT READS IS OF BULK AT MOST 1048576: true; the input reads as it did. -/
def trustSettlesUptoRow : OpenClaim := { program := "ytjmeakfjfpnciaagreat", sum := "b9e44b39202b951b39619e274acea445ad4ec742d6fadc189e4b3b690b32859c", func := "hustings/hustingslaw6.TrustSettles", spec := "trustSettles", inPlace := ["math/bits.Add64", "math/bits.Sub64", "internal/abi.NoEscape", "internal/bytealg.MakeNoZero"], unfollowed := true, recurses := true, plainKeys := false, apart := false, narrowed := true }
def TrustSettlesUptoSaid : Prop := trustSettlesUptoRow.holds Tryz.pinned (OpenSpec.upto trustSettlesSpec)

/-- 'hustingslaw6.TrustStands', WHERE WHAT IT READS IS OF BULK AT MOST 1048576: true; the input reads as it did. -/
def trustStandsUptoRow : OpenClaim := { program := "ytjmeakfjfpnciaagreat", sum := "b9e44b39202b951b39619e274acea445ad4ec742d6fadc189e4b3b690b32859c", func := "hustings/hustingslaw6.TrustStands", spec := "trustStands", inPlace := ["internal/abi.NoEscape", "math/bits.Add64", "math/bits.Sub64", "internal/bytealg.MakeNoZero"], unfollowed := true, recurses := true, plainKeys := false, apart := false, narrowed := true }
def TrustStandsUptoSaid : Prop := trustStandsUptoRow.holds Tryz.pinned (OpenSpec.upto trustStandsSpec)

/-- 'hustingslaw6.TrustPlays', WHERE WHAT IT READS IS OF BULK AT MOST 1048576: true; the input reads as it did. -/
def trustPlaysUptoRow : OpenClaim := { program := "ytjmeakfjfpnciaagreat", sum := "b9e44b39202b951b39619e274acea445ad4ec742d6fadc189e4b3b690b32859c", func := "hustings/hustingslaw6.TrustPlays", spec := "trustPlays", inPlace := ["internal/abi.NoEscape", "math/bits.Add64", "math/bits.Sub64", "internal/bytealg.MakeNoZero"], unfollowed := true, recurses := true, plainKeys := false, apart := false, narrowed := true }
def TrustPlaysUptoSaid : Prop := trustPlaysUptoRow.holds Tryz.pinned (OpenSpec.upto trustPlaysSpec)

/-- 'hustingslaw6.TrustKeys', WHERE WHAT IT READS IS OF BULK AT MOST 1048576: true; the input reads as it did. -/
def trustKeysUptoRow : OpenClaim := { program := "ytjmeakfjfpnciaagreat", sum := "b9e44b39202b951b39619e274acea445ad4ec742d6fadc189e4b3b690b32859c", func := "hustings/hustingslaw6.TrustKeys", spec := "trustKeys", inPlace := ["internal/abi.NoEscape", "math/bits.Add64", "math/bits.Sub64", "internal/bytealg.MakeNoZero"], unfollowed := true, recurses := true, plainKeys := false, apart := false, narrowed := true }
def TrustKeysUptoSaid : Prop := trustKeysUptoRow.holds Tryz.pinned (OpenSpec.upto trustKeysSpec)

end Rows
end Go.Proofs.YtjmeakfjfpnciaaGreat
