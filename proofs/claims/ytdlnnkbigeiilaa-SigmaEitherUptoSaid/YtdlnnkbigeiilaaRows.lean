/-
  No cell of these rows narrows 'for every input' (looked for: loops, veiled, ifaces, maps, wideKeys, modest, calm, conditions, laid).
  DERIVED. THE GIVEN ROWS OF THIS SEAT. 5 by the template 'for every input the law returns true; each argument reads behind the call as it read before'; 0 by the template 'total and deterministic' (their statements: YtdlnnkbigeiilaaTotals.lean).
  GIVEN WITH THE SEED: the statements are not yours to turn. If you find one false, say at which input.
  Laid BY PROGRAM, IN A SANDBOX (cutbox-rows.mjs): the forced cells as the released guide's own fill.sh prints them over the translation 038f8e4374ec0f68… (all of the seat's roots in one cut). By AI agents, Wed Nov 11 2026. No macro, syntax, notation, axiom, sorry.
-/
import Derived.Test.YtdlnnkbigeiilaaChecked
import GoSem.Claim
import GoSem.ClaimJoined
import GoSem.ClaimMapViews
import Derived.JoinedTies
import Derived.KernelRfl
namespace Go.Proofs.Ytdlnnkbigeiilaa
/- THE CELL 'sum', in the pinned program and in every row, IS THE sha256 OF THE DUMP (.gsa) THAT YtdlnnkbigeiilaaProg.lean LOADS. Nothing in Lean hashes anything: it is a label: what it is worth is what the hold of that sum in a sandbox is worth. -/
noncomputable def Try.pinned : Pinned := { name := "ytdlnnkbigeiilaa", sum := "038f8e4374ec0f6861d590de9ad266afa00899ae6ee8d5293afbb7fc6f006c8e", checked := Try.checked }
namespace Rows
def none {H : Type} : Left H := { results := [], args := [] }

/-- 'hustingslaw3.GroupAsks': WHATEVER THE INPUT: true; the input reads as it did. -/
def groupAsksSpec : ChangeSpec := { name := "groupAsks", fn := fun _ => fun
  | [d1, d2, d3] => { results := [.lit (.bool true)], args := [d1, d2, d3] }
  | _ => none }
def groupAsksRow : OpenClaim := { program := "ytdlnnkbigeiilaa", sum := "038f8e4374ec0f6861d590de9ad266afa00899ae6ee8d5293afbb7fc6f006c8e", func := "hustings/hustingslaw3.GroupAsks", spec := "groupAsks", inPlace := ["math/bits.Add64", "math/bits.Sub64"], unfollowed := true, recurses := true, apart := false }
def GroupAsksSaid : Prop := groupAsksRow.holds Try.pinned (OpenSpec.ofChange groupAsksSpec)

/-- ITS FALSE NEIGHBOUR: 'it returns false'. Refute it at one input. -/
def groupAsksWrong : ChangeSpec := { name := "groupAsks", fn := fun _ => fun
  | [d1, d2, d3] => { results := [.lit (.bool false)], args := [d1, d2, d3] }
  | _ => none }
def GroupAsksWrongFalsely : Prop := groupAsksRow.holds Try.pinned (OpenSpec.ofChange groupAsksWrong)

/-- 'hustingslaw7.BoardMeets': WHATEVER THE INPUT: true; the input reads as it did. -/
def boardMeetsSpec : ChangeSpec := { name := "boardMeets", fn := fun _ => fun
  | [d1, d2, d3, d4, d5, d6, d7] => { results := [.lit (.bool true)], args := [d1, d2, d3, d4, d5, d6, d7] }
  | _ => none }
def boardMeetsRow : OpenClaim := { program := "ytdlnnkbigeiilaa", sum := "038f8e4374ec0f6861d590de9ad266afa00899ae6ee8d5293afbb7fc6f006c8e", func := "hustings/hustingslaw7.BoardMeets", spec := "boardMeets", unfollowed := true, recurses := true, apart := false }
def BoardMeetsSaid : Prop := boardMeetsRow.holds Try.pinned (OpenSpec.ofChange boardMeetsSpec)

/-- ITS FALSE NEIGHBOUR: 'it returns false'. Refute it at one input. -/
def boardMeetsWrong : ChangeSpec := { name := "boardMeets", fn := fun _ => fun
  | [d1, d2, d3, d4, d5, d6, d7] => { results := [.lit (.bool false)], args := [d1, d2, d3, d4, d5, d6, d7] }
  | _ => none }
def BoardMeetsWrongFalsely : Prop := boardMeetsRow.holds Try.pinned (OpenSpec.ofChange boardMeetsWrong)

/-- 'hustingslaw7.BoardBlocks': WHATEVER THE INPUT: true; the input reads as it did. -/
def boardBlocksSpec : ChangeSpec := { name := "boardBlocks", fn := fun _ => fun
  | [d1, d2, d3, d4, d5] => { results := [.lit (.bool true)], args := [d1, d2, d3, d4, d5] }
  | _ => none }
def boardBlocksRow : OpenClaim := { program := "ytdlnnkbigeiilaa", sum := "038f8e4374ec0f6861d590de9ad266afa00899ae6ee8d5293afbb7fc6f006c8e", func := "hustings/hustingslaw7.BoardBlocks", spec := "boardBlocks", unfollowed := true, recurses := true, apart := false }
def BoardBlocksSaid : Prop := boardBlocksRow.holds Try.pinned (OpenSpec.ofChange boardBlocksSpec)

/-- ITS FALSE NEIGHBOUR: 'it returns false'. Refute it at one input. -/
def boardBlocksWrong : ChangeSpec := { name := "boardBlocks", fn := fun _ => fun
  | [d1, d2, d3, d4, d5] => { results := [.lit (.bool false)], args := [d1, d2, d3, d4, d5] }
  | _ => none }
def BoardBlocksWrongFalsely : Prop := boardBlocksRow.holds Try.pinned (OpenSpec.ofChange boardBlocksWrong)

/-- 'hustingslaw7.BoardBinds': WHATEVER THE INPUT: true; the input reads as it did. -/
def boardBindsSpec : ChangeSpec := { name := "boardBinds", fn := fun _ => fun
  | [d1, d2, d3, d4, d5, d6] => { results := [.lit (.bool true)], args := [d1, d2, d3, d4, d5, d6] }
  | _ => none }
def boardBindsRow : OpenClaim := { program := "ytdlnnkbigeiilaa", sum := "038f8e4374ec0f6861d590de9ad266afa00899ae6ee8d5293afbb7fc6f006c8e", func := "hustings/hustingslaw7.BoardBinds", spec := "boardBinds", unfollowed := true, recurses := true, apart := false }
def BoardBindsSaid : Prop := boardBindsRow.holds Try.pinned (OpenSpec.ofChange boardBindsSpec)

/-- ITS FALSE NEIGHBOUR: 'it returns false'. Refute it at one input. -/
def boardBindsWrong : ChangeSpec := { name := "boardBinds", fn := fun _ => fun
  | [d1, d2, d3, d4, d5, d6] => { results := [.lit (.bool false)], args := [d1, d2, d3, d4, d5, d6] }
  | _ => none }
def BoardBindsWrongFalsely : Prop := boardBindsRow.holds Try.pinned (OpenSpec.ofChange boardBindsWrong)

/-- 'hustingslaw5.SigmaEither': WHATEVER THE INPUT: true; the input reads as it did. -/
def sigmaEitherSpec : ChangeSpec := { name := "sigmaEither", fn := fun _ => fun
  | [d1, d2, d3, d4, d5, d6, d7] => { results := [.lit (.bool true)], args := [d1, d2, d3, d4, d5, d6, d7] }
  | _ => none }
def sigmaEitherRow : OpenClaim := { program := "ytdlnnkbigeiilaa", sum := "038f8e4374ec0f6861d590de9ad266afa00899ae6ee8d5293afbb7fc6f006c8e", func := "hustings/hustingslaw5.SigmaEither", spec := "sigmaEither", inPlace := ["math/bits.Add64", "math/bits.Sub64", "internal/abi.NoEscape", "internal/bytealg.MakeNoZero"], unfollowed := true, recurses := true, apart := false }
def SigmaEitherSaid : Prop := sigmaEitherRow.holds Try.pinned (OpenSpec.ofChange sigmaEitherSpec)

/-- ITS FALSE NEIGHBOUR: 'it returns false'. Refute it at one input. -/
def sigmaEitherWrong : ChangeSpec := { name := "sigmaEither", fn := fun _ => fun
  | [d1, d2, d3, d4, d5, d6, d7] => { results := [.lit (.bool false)], args := [d1, d2, d3, d4, d5, d6, d7] }
  | _ => none }
def SigmaEitherWrongFalsely : Prop := sigmaEitherRow.holds Try.pinned (OpenSpec.ofChange sigmaEitherWrong)

/- THE SECOND FORM. 'bulk': how many values and letters a reading holds, each counted each time it is reached (what is shared counts as often as it is met; a slice's spare places count too). A statement '..UptoSaid' is the law's where the arguments, and the package variables that the reading takes, are together of bulk at most 1048576: NARROWER than '..Said'. Prove '..Said' where nothing that the law and all that it calls make is longer than what came in: it says more and counts as full. Else prove '..UptoSaid'. A law counts once. -/
mutual
def uptoBulk {H : Type} : DataW H → Nat
  | .lit (.string bytes) => bytes.length + 1
  | .lit _ => 1
  | .nil => 1
  | .ptr d => uptoBulk d + 1
  | .slice elems spare => uptoBulkAll elems + uptoBulkAll spare + 1
  | .agg parts => uptoBulkAll parts + 1
  | .iface _ d => uptoBulk d + 1
  | .map entries => uptoBulkEntries entries + 1
  | .held _ => 1
def uptoBulkAll {H : Type} : List (DataW H) → Nat
  | [] => 0
  | d :: r => uptoBulk d + uptoBulkAll r
def uptoBulkEntries {H : Type} : List (Lit × DataW H) → Nat
  | [] => 0
  | x :: r => uptoBulkEntry x + uptoBulkEntries r
def uptoBulkEntry {H : Type} : Lit × DataW H → Nat
  | (.string bytes, d) => bytes.length + uptoBulk d + 1
  | (_, d) => uptoBulk d + 1
 end
def uptoSmall : (H : Type) → List (DataW H) → Bool := fun _ ds => decide (uptoBulkAll ds ≤ 1048576)
def OpenSpec.upto (s : _root_.Go.ChangeSpec) : _root_.Go.OpenSpec := { _root_.Go.OpenSpec.ofChange s with cond := some uptoSmall }

/-- 'hustingslaw3.GroupAsks', WHERE WHAT IT READS IS OF BULK AT MOST 1048576: true; the input reads as it did. -/
def groupAsksUptoRow : OpenClaim := { program := "ytdlnnkbigeiilaa", sum := "038f8e4374ec0f6861d590de9ad266afa00899ae6ee8d5293afbb7fc6f006c8e", func := "hustings/hustingslaw3.GroupAsks", spec := "groupAsks", inPlace := ["math/bits.Add64", "math/bits.Sub64"], unfollowed := true, recurses := true, apart := false, narrowed := true }
def GroupAsksUptoSaid : Prop := groupAsksUptoRow.holds Try.pinned (OpenSpec.upto groupAsksSpec)

/-- 'hustingslaw7.BoardMeets', WHERE WHAT IT READS IS OF BULK AT MOST 1048576: true; the input reads as it did. -/
def boardMeetsUptoRow : OpenClaim := { program := "ytdlnnkbigeiilaa", sum := "038f8e4374ec0f6861d590de9ad266afa00899ae6ee8d5293afbb7fc6f006c8e", func := "hustings/hustingslaw7.BoardMeets", spec := "boardMeets", unfollowed := true, recurses := true, apart := false, narrowed := true }
def BoardMeetsUptoSaid : Prop := boardMeetsUptoRow.holds Try.pinned (OpenSpec.upto boardMeetsSpec)

/-- 'hustingslaw7.BoardBlocks', WHERE WHAT IT READS IS OF BULK AT MOST 1048576: true; the input reads as it did. -/
def boardBlocksUptoRow : OpenClaim := { program := "ytdlnnkbigeiilaa", sum := "038f8e4374ec0f6861d590de9ad266afa00899ae6ee8d5293afbb7fc6f006c8e", func := "hustings/hustingslaw7.BoardBlocks", spec := "boardBlocks", unfollowed := true, recurses := true, apart := false, narrowed := true }
def BoardBlocksUptoSaid : Prop := boardBlocksUptoRow.holds Try.pinned (OpenSpec.upto boardBlocksSpec)

/-- 'hustingslaw7.BoardBinds', WHERE WHAT IT READS IS OF BULK AT MOST 1048576: true; the input reads as it did. -/
def boardBindsUptoRow : OpenClaim := { program := "ytdlnnkbigeiilaa", sum := "038f8e4374ec0f6861d590de9ad266afa00899ae6ee8d5293afbb7fc6f006c8e", func := "hustings/hustingslaw7.BoardBinds", spec := "boardBinds", unfollowed := true, recurses := true, apart := false, narrowed := true }
def BoardBindsUptoSaid : Prop := boardBindsUptoRow.holds Try.pinned (OpenSpec.upto boardBindsSpec)

/-- 'hustingslaw5.SigmaEither', WHERE WHAT IT READS IS OF BULK AT MOST 1048576: true; the input reads as it did. -/
def sigmaEitherUptoRow : OpenClaim := { program := "ytdlnnkbigeiilaa", sum := "038f8e4374ec0f6861d590de9ad266afa00899ae6ee8d5293afbb7fc6f006c8e", func := "hustings/hustingslaw5.SigmaEither", spec := "sigmaEither", inPlace := ["math/bits.Add64", "math/bits.Sub64", "internal/abi.NoEscape", "internal/bytealg.MakeNoZero"], unfollowed := true, recurses := true, apart := false, narrowed := true }
def SigmaEitherUptoSaid : Prop := sigmaEitherUptoRow.holds Try.pinned (OpenSpec.upto sigmaEitherSpec)

end Rows
end Go.Proofs.Ytdlnnkbigeiilaa
