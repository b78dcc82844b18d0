/-
  No cell of these rows narrows 'for every input' (looked for: loops, veiled, ifaces, maps, wideKeys, modest, calm, conditions, laid).
  DERIVED. THE GIVEN ROWS OF THIS SEAT. 12 by the template 'for every input the law returns true; each argument reads behind the call as it read before'; 0 by the template 'total and deterministic' (their statements: YtipgjookfdkciaaTotals.lean).
  GIVEN WITH THE SEED: the statements are not yours to turn. If you find one false, say at which input.
  Laid BY PROGRAM, IN A SANDBOX (cutbox-rows.mjs): the forced cells as the released guide's own fill.sh prints them over the translation e8cb3a30fda1a583… (all of the seat's roots in one cut). By AI agents, Wed Nov 11 2026. No macro, syntax, notation, axiom, sorry.
-/
import Derived.Test.YtipgjookfdkciaaChecked
import GoSem.Claim
import GoSem.ClaimJoined
import GoSem.ClaimMapViews
import Derived.JoinedTies
import Derived.KernelRfl
namespace Go.Proofs.Ytipgjookfdkciaa
/- THE CELL 'sum', in the pinned program and in every row, IS THE sha256 OF THE DUMP (.gsa) THAT YtipgjookfdkciaaProg.lean LOADS. Nothing in Lean hashes anything: it is a label: what it is worth is what the hold of that sum in a sandbox is worth. -/
noncomputable def Try.pinned : Pinned := { name := "ytipgjookfdkciaa", sum := "e8cb3a30fda1a583a3e910ebf0568ebd11ac0df964e5fb09ad602817c456c401", checked := Try.checked }
namespace Rows
def none {H : Type} : Left H := { results := [], args := [] }

/-- 'hustingslaw5.SigmaExtracts': WHATEVER THE INPUT: true; the input reads as it did. -/
def sigmaExtractsSpec : ChangeSpec := { name := "sigmaExtracts", fn := fun _ => fun
  | [d1, d2, d3, d4, d5] => { results := [.lit (.bool true)], args := [d1, d2, d3, d4, d5] }
  | _ => none }
def sigmaExtractsRow : OpenClaim := { program := "ytipgjookfdkciaa", sum := "e8cb3a30fda1a583a3e910ebf0568ebd11ac0df964e5fb09ad602817c456c401", func := "hustings/hustingslaw5.SigmaExtracts", spec := "sigmaExtracts", inPlace := ["math/bits.Add64", "math/bits.Sub64"], unfollowed := true, recurses := true, apart := false }
def SigmaExtractsSaid : Prop := sigmaExtractsRow.holds Try.pinned (OpenSpec.ofChange sigmaExtractsSpec)

/-- ITS FALSE NEIGHBOUR: 'it returns false'. Refute it at one input. -/
def sigmaExtractsWrong : ChangeSpec := { name := "sigmaExtracts", fn := fun _ => fun
  | [d1, d2, d3, d4, d5] => { results := [.lit (.bool false)], args := [d1, d2, d3, d4, d5] }
  | _ => none }
def SigmaExtractsWrongFalsely : Prop := sigmaExtractsRow.holds Try.pinned (OpenSpec.ofChange sigmaExtractsWrong)

/-- 'hustingslaw6.TrustHides': WHATEVER THE INPUT: true; the input reads as it did. -/
def trustHidesSpec : ChangeSpec := { name := "trustHides", fn := fun _ => fun
  | [d1, d2, d3, d4, d5] => { results := [.lit (.bool true)], args := [d1, d2, d3, d4, d5] }
  | _ => none }
def trustHidesRow : OpenClaim := { program := "ytipgjookfdkciaa", sum := "e8cb3a30fda1a583a3e910ebf0568ebd11ac0df964e5fb09ad602817c456c401", func := "hustings/hustingslaw6.TrustHides", spec := "trustHides", inPlace := ["math/bits.Add64", "math/bits.Sub64"], unfollowed := true, recurses := true, apart := false }
def TrustHidesSaid : Prop := trustHidesRow.holds Try.pinned (OpenSpec.ofChange trustHidesSpec)

/-- ITS FALSE NEIGHBOUR: 'it returns false'. Refute it at one input. -/
def trustHidesWrong : ChangeSpec := { name := "trustHides", fn := fun _ => fun
  | [d1, d2, d3, d4, d5] => { results := [.lit (.bool false)], args := [d1, d2, d3, d4, d5] }
  | _ => none }
def TrustHidesWrongFalsely : Prop := trustHidesRow.holds Try.pinned (OpenSpec.ofChange trustHidesWrong)

/-- 'hustingslaw9.BallotHides': WHATEVER THE INPUT: true; the input reads as it did. -/
def ballotHidesSpec : ChangeSpec := { name := "ballotHides", fn := fun _ => fun
  | [d1, d2, d3, d4, d5, d6, d7] => { results := [.lit (.bool true)], args := [d1, d2, d3, d4, d5, d6, d7] }
  | _ => none }
def ballotHidesRow : OpenClaim := { program := "ytipgjookfdkciaa", sum := "e8cb3a30fda1a583a3e910ebf0568ebd11ac0df964e5fb09ad602817c456c401", func := "hustings/hustingslaw9.BallotHides", spec := "ballotHides", inPlace := ["math/bits.Add64", "math/bits.Sub64"], apart := false }
def BallotHidesSaid : Prop := ballotHidesRow.holds Try.pinned (OpenSpec.ofChange ballotHidesSpec)

/-- ITS FALSE NEIGHBOUR: 'it returns false'. Refute it at one input. -/
def ballotHidesWrong : ChangeSpec := { name := "ballotHides", fn := fun _ => fun
  | [d1, d2, d3, d4, d5, d6, d7] => { results := [.lit (.bool false)], args := [d1, d2, d3, d4, d5, d6, d7] }
  | _ => none }
def BallotHidesWrongFalsely : Prop := ballotHidesRow.holds Try.pinned (OpenSpec.ofChange ballotHidesWrong)

/-- 'hustingslaw9.BallotCounts': WHATEVER THE INPUT: true; the input reads as it did. -/
def ballotCountsSpec : ChangeSpec := { name := "ballotCounts", fn := fun _ => fun
  | [d1, d2, d3, d4, d5] => { results := [.lit (.bool true)], args := [d1, d2, d3, d4, d5] }
  | _ => none }
def ballotCountsRow : OpenClaim := { program := "ytipgjookfdkciaa", sum := "e8cb3a30fda1a583a3e910ebf0568ebd11ac0df964e5fb09ad602817c456c401", func := "hustings/hustingslaw9.BallotCounts", spec := "ballotCounts", inPlace := ["math/bits.Add64", "math/bits.Sub64"], unfollowed := true, recurses := true, apart := false }
def BallotCountsSaid : Prop := ballotCountsRow.holds Try.pinned (OpenSpec.ofChange ballotCountsSpec)

/-- ITS FALSE NEIGHBOUR: 'it returns false'. Refute it at one input. -/
def ballotCountsWrong : ChangeSpec := { name := "ballotCounts", fn := fun _ => fun
  | [d1, d2, d3, d4, d5] => { results := [.lit (.bool false)], args := [d1, d2, d3, d4, d5] }
  | _ => none }
def BallotCountsWrongFalsely : Prop := ballotCountsRow.holds Try.pinned (OpenSpec.ofChange ballotCountsWrong)

/-- 'hustingslaw9.BallotBinds': WHATEVER THE INPUT: true; the input reads as it did. -/
def ballotBindsSpec : ChangeSpec := { name := "ballotBinds", fn := fun _ => fun
  | [d1, d2, d3, d4, d5, d6] => { results := [.lit (.bool true)], args := [d1, d2, d3, d4, d5, d6] }
  | _ => none }
def ballotBindsRow : OpenClaim := { program := "ytipgjookfdkciaa", sum := "e8cb3a30fda1a583a3e910ebf0568ebd11ac0df964e5fb09ad602817c456c401", func := "hustings/hustingslaw9.BallotBinds", spec := "ballotBinds", inPlace := ["math/bits.Add64", "math/bits.Sub64"], unfollowed := true, recurses := true, apart := false }
def BallotBindsSaid : Prop := ballotBindsRow.holds Try.pinned (OpenSpec.ofChange ballotBindsSpec)

/-- ITS FALSE NEIGHBOUR: 'it returns false'. Refute it at one input. -/
def ballotBindsWrong : ChangeSpec := { name := "ballotBinds", fn := fun _ => fun
  | [d1, d2, d3, d4, d5, d6] => { results := [.lit (.bool false)], args := [d1, d2, d3, d4, d5, d6] }
  | _ => none }
def BallotBindsWrongFalsely : Prop := ballotBindsRow.holds Try.pinned (OpenSpec.ofChange ballotBindsWrong)

/-- 'hustingslaw6.TrustJoins': WHATEVER THE INPUT: true; the input reads as it did. -/
def trustJoinsSpec : ChangeSpec := { name := "trustJoins", fn := fun _ => fun
  | [d1, d2, d3, d4, d5] => { results := [.lit (.bool true)], args := [d1, d2, d3, d4, d5] }
  | _ => none }
def trustJoinsRow : OpenClaim := { program := "ytipgjookfdkciaa", sum := "e8cb3a30fda1a583a3e910ebf0568ebd11ac0df964e5fb09ad602817c456c401", func := "hustings/hustingslaw6.TrustJoins", spec := "trustJoins", inPlace := ["math/bits.Add64", "math/bits.Sub64"], unfollowed := true, recurses := true, apart := false }
def TrustJoinsSaid : Prop := trustJoinsRow.holds Try.pinned (OpenSpec.ofChange trustJoinsSpec)

/-- ITS FALSE NEIGHBOUR: 'it returns false'. Refute it at one input. -/
def trustJoinsWrong : ChangeSpec := { name := "trustJoins", fn := fun _ => fun
  | [d1, d2, d3, d4, d5] => { results := [.lit (.bool false)], args := [d1, d2, d3, d4, d5] }
  | _ => none }
def TrustJoinsWrongFalsely : Prop := trustJoinsRow.holds Try.pinned (OpenSpec.ofChange trustJoinsWrong)

/-- 'hustingslaw5.SigmaFirsts': WHATEVER THE INPUT: true; the input reads as it did. -/
def sigmaFirstsSpec : ChangeSpec := { name := "sigmaFirsts", fn := fun _ => fun
  | [d1, d2, d3, d4] => { results := [.lit (.bool true)], args := [d1, d2, d3, d4] }
  | _ => none }
def sigmaFirstsRow : OpenClaim := { program := "ytipgjookfdkciaa", sum := "e8cb3a30fda1a583a3e910ebf0568ebd11ac0df964e5fb09ad602817c456c401", func := "hustings/hustingslaw5.SigmaFirsts", spec := "sigmaFirsts", inPlace := ["math/bits.Add64", "math/bits.Sub64"], unfollowed := true, recurses := true, apart := false }
def SigmaFirstsSaid : Prop := sigmaFirstsRow.holds Try.pinned (OpenSpec.ofChange sigmaFirstsSpec)

/-- ITS FALSE NEIGHBOUR: 'it returns false'. Refute it at one input. -/
def sigmaFirstsWrong : ChangeSpec := { name := "sigmaFirsts", fn := fun _ => fun
  | [d1, d2, d3, d4] => { results := [.lit (.bool false)], args := [d1, d2, d3, d4] }
  | _ => none }
def SigmaFirstsWrongFalsely : Prop := sigmaFirstsRow.holds Try.pinned (OpenSpec.ofChange sigmaFirstsWrong)

/-- 'hustingslaw5.SigmaSound': WHATEVER THE INPUT: true; the input reads as it did. -/
def sigmaSoundSpec : ChangeSpec := { name := "sigmaSound", fn := fun _ => fun
  | [d1, d2, d3, d4] => { results := [.lit (.bool true)], args := [d1, d2, d3, d4] }
  | _ => none }
def sigmaSoundRow : OpenClaim := { program := "ytipgjookfdkciaa", sum := "e8cb3a30fda1a583a3e910ebf0568ebd11ac0df964e5fb09ad602817c456c401", func := "hustings/hustingslaw5.SigmaSound", spec := "sigmaSound", inPlace := ["math/bits.Add64", "math/bits.Sub64"], unfollowed := true, recurses := true, apart := false }
def SigmaSoundSaid : Prop := sigmaSoundRow.holds Try.pinned (OpenSpec.ofChange sigmaSoundSpec)

/-- ITS FALSE NEIGHBOUR: 'it returns false'. Refute it at one input. -/
def sigmaSoundWrong : ChangeSpec := { name := "sigmaSound", fn := fun _ => fun
  | [d1, d2, d3, d4] => { results := [.lit (.bool false)], args := [d1, d2, d3, d4] }
  | _ => none }
def SigmaSoundWrongFalsely : Prop := sigmaSoundRow.holds Try.pinned (OpenSpec.ofChange sigmaSoundWrong)

/-- 'hustingslaw5.SigmaOnce': WHATEVER THE INPUT: true; the input reads as it did. -/
def sigmaOnceSpec : ChangeSpec := { name := "sigmaOnce", fn := fun _ => fun
  | [d1, d2, d3, d4, d5, d6] => { results := [.lit (.bool true)], args := [d1, d2, d3, d4, d5, d6] }
  | _ => none }
def sigmaOnceRow : OpenClaim := { program := "ytipgjookfdkciaa", sum := "e8cb3a30fda1a583a3e910ebf0568ebd11ac0df964e5fb09ad602817c456c401", func := "hustings/hustingslaw5.SigmaOnce", spec := "sigmaOnce", inPlace := ["math/bits.Add64", "math/bits.Sub64"], unfollowed := true, recurses := true, apart := false }
def SigmaOnceSaid : Prop := sigmaOnceRow.holds Try.pinned (OpenSpec.ofChange sigmaOnceSpec)

/-- ITS FALSE NEIGHBOUR: 'it returns false'. Refute it at one input. -/
def sigmaOnceWrong : ChangeSpec := { name := "sigmaOnce", fn := fun _ => fun
  | [d1, d2, d3, d4, d5, d6] => { results := [.lit (.bool false)], args := [d1, d2, d3, d4, d5, d6] }
  | _ => none }
def SigmaOnceWrongFalsely : Prop := sigmaOnceRow.holds Try.pinned (OpenSpec.ofChange sigmaOnceWrong)

/-- 'hustingslaw5.SigmaHides': WHATEVER THE INPUT: true; the input reads as it did. -/
def sigmaHidesSpec : ChangeSpec := { name := "sigmaHides", fn := fun _ => fun
  | [d1, d2, d3, d4, d5] => { results := [.lit (.bool true)], args := [d1, d2, d3, d4, d5] }
  | _ => none }
def sigmaHidesRow : OpenClaim := { program := "ytipgjookfdkciaa", sum := "e8cb3a30fda1a583a3e910ebf0568ebd11ac0df964e5fb09ad602817c456c401", func := "hustings/hustingslaw5.SigmaHides", spec := "sigmaHides", inPlace := ["math/bits.Add64", "math/bits.Sub64"], unfollowed := true, recurses := true, apart := false }
def SigmaHidesSaid : Prop := sigmaHidesRow.holds Try.pinned (OpenSpec.ofChange sigmaHidesSpec)

/-- ITS FALSE NEIGHBOUR: 'it returns false'. Refute it at one input. -/
def sigmaHidesWrong : ChangeSpec := { name := "sigmaHides", fn := fun _ => fun
  | [d1, d2, d3, d4, d5] => { results := [.lit (.bool false)], args := [d1, d2, d3, d4, d5] }
  | _ => none }
def SigmaHidesWrongFalsely : Prop := sigmaHidesRow.holds Try.pinned (OpenSpec.ofChange sigmaHidesWrong)

/-- 'hustingslaw5.SigmaForks': WHATEVER THE INPUT: true; the input reads as it did. -/
def sigmaForksSpec : ChangeSpec := { name := "sigmaForks", fn := fun _ => fun
  | [d1, d2, d3, d4] => { results := [.lit (.bool true)], args := [d1, d2, d3, d4] }
  | _ => none }
def sigmaForksRow : OpenClaim := { program := "ytipgjookfdkciaa", sum := "e8cb3a30fda1a583a3e910ebf0568ebd11ac0df964e5fb09ad602817c456c401", func := "hustings/hustingslaw5.SigmaForks", spec := "sigmaForks", inPlace := ["math/bits.Add64", "math/bits.Sub64"], unfollowed := true, recurses := true, apart := false }
def SigmaForksSaid : Prop := sigmaForksRow.holds Try.pinned (OpenSpec.ofChange sigmaForksSpec)

/-- ITS FALSE NEIGHBOUR: 'it returns false'. Refute it at one input. -/
def sigmaForksWrong : ChangeSpec := { name := "sigmaForks", fn := fun _ => fun
  | [d1, d2, d3, d4] => { results := [.lit (.bool false)], args := [d1, d2, d3, d4] }
  | _ => none }
def SigmaForksWrongFalsely : Prop := sigmaForksRow.holds Try.pinned (OpenSpec.ofChange sigmaForksWrong)

/-- 'hustingslaw12.TallyKeys': WHATEVER THE INPUT: true; the input reads as it did. -/
def tallyKeysSpec : ChangeSpec := { name := "tallyKeys", fn := fun _ => fun
  | [d] => { results := [.lit (.bool true)], args := [d] }
  | _ => none }
def tallyKeysRow : OpenClaim := { program := "ytipgjookfdkciaa", sum := "e8cb3a30fda1a583a3e910ebf0568ebd11ac0df964e5fb09ad602817c456c401", func := "hustings/hustingslaw12.TallyKeys", spec := "tallyKeys", inPlace := ["math/bits.Add64", "math/bits.Sub64"], unfollowed := true, recurses := true, apart := false }
def TallyKeysSaid : Prop := tallyKeysRow.holds Try.pinned (OpenSpec.ofChange tallyKeysSpec)

/-- ITS FALSE NEIGHBOUR: 'it returns false'. Refute it at one input. -/
def tallyKeysWrong : ChangeSpec := { name := "tallyKeys", fn := fun _ => fun
  | [d] => { results := [.lit (.bool false)], args := [d] }
  | _ => none }
def TallyKeysWrongFalsely : Prop := tallyKeysRow.holds Try.pinned (OpenSpec.ofChange tallyKeysWrong)

/- THE SECOND FORM. 'bulk': how many values and letters a reading holds, each counted each time it is reached (what is shared counts as often as it is met; a slice's spare places count too). A statement '..UptoSaid' is the law's where the arguments, and the package variables that the reading takes, are together of bulk at most 1048576: NARROWER than '..Said'. Prove '..Said' where nothing that the law and all that it calls make is longer than what came in: it says more and counts as full. Else prove '..UptoSaid'. A law counts once. -/
mutual
def uptoBulk {H : Type} : DataW H → Nat
  | .lit (.string bytes) => bytes.length + 1
  | .lit _ => 1
  | .nil => 1
  | .ptr d => uptoBulk d + 1
  | .slice elems spare => uptoBulkAll elems + uptoBulkAll spare + 1
  | .agg parts => uptoBulkAll parts + 1
  | .iface _ d => uptoBulk d + 1
  | .map entries => uptoBulkEntries entries + 1
  | .held _ => 1
def uptoBulkAll {H : Type} : List (DataW H) → Nat
  | [] => 0
  | d :: r => uptoBulk d + uptoBulkAll r
def uptoBulkEntries {H : Type} : List (Lit × DataW H) → Nat
  | [] => 0
  | x :: r => uptoBulkEntry x + uptoBulkEntries r
def uptoBulkEntry {H : Type} : Lit × DataW H → Nat
  | (.string bytes, d) => bytes.length + uptoBulk d + 1
  | (_, d) => uptoBulk d + 1
 end
def uptoSmall : (H : Type) → List (DataW H) → Bool := fun _ ds => decide (uptoBulkAll ds ≤ 1048576)
def OpenSpec.upto (s : _root_.Go.ChangeSpec) : _root_.Go.OpenSpec := { _root_.Go.OpenSpec.ofChange s with cond := some uptoSmall }

/-- 'hustingslaw5.SigmaExtracts', WHERE WHAT IT READS IS OF BULK AT MOST 1048576: true; the input reads as it did. -/
def sigmaExtractsUptoRow : OpenClaim := { program := "ytipgjookfdkciaa", sum := "e8cb3a30fda1a583a3e910ebf0568ebd11ac0df964e5fb09ad602817c456c401", func := "hustings/hustingslaw5.SigmaExtracts", spec := "sigmaExtracts", inPlace := ["math/bits.Add64", "math/bits.Sub64"], unfollowed := true, recurses := true, apart := false, narrowed := true }
def SigmaExtractsUptoSaid : Prop := sigmaExtractsUptoRow.holds Try.pinned (OpenSpec.upto sigmaExtractsSpec)

/-- 'hustingslaw6.TrustHides', WHERE WHAT IT READS IS OF BULK AT MOST 1048576: true; the input reads as it did. -/
def trustHidesUptoRow : OpenClaim := { program := "ytipgjookfdkciaa", sum := "e8cb3a30fda1a583a3e910ebf0568ebd11ac0df964e5fb09ad602817c456c401", func := "hustings/hustingslaw6.TrustHides", spec := "trustHides", inPlace := ["math/bits.Add64", "math/bits.Sub64"], unfollowed := true, recurses := true, apart := false, narrowed := true }
def TrustHidesUptoSaid : Prop := trustHidesUptoRow.holds Try.pinned (OpenSpec.upto trustHidesSpec)

/-- 'hustingslaw9.BallotHides', WHERE WHAT IT READS IS OF BULK AT MOST 1048576: true; the input reads as it did. -/
def ballotHidesUptoRow : OpenClaim := { program := "ytipgjookfdkciaa", sum := "e8cb3a30fda1a583a3e910ebf0568ebd11ac0df964e5fb09ad602817c456c401", func := "hustings/hustingslaw9.BallotHides", spec := "ballotHides", inPlace := ["math/bits.Add64", "math/bits.Sub64"], apart := false, narrowed := true }
def BallotHidesUptoSaid : Prop := ballotHidesUptoRow.holds Try.pinned (OpenSpec.upto ballotHidesSpec)

/-- 'hustingslaw9.BallotCounts', WHERE WHAT IT READS IS OF BULK AT MOST 1048576: true; the input reads as it did. -/
def ballotCountsUptoRow : OpenClaim := { program := "ytipgjookfdkciaa", sum := "e8cb3a30fda1a583a3e910ebf0568ebd11ac0df964e5fb09ad602817c456c401", func := "hustings/hustingslaw9.BallotCounts", spec := "ballotCounts", inPlace := ["math/bits.Add64", "math/bits.Sub64"], unfollowed := true, recurses := true, apart := false, narrowed := true }
def BallotCountsUptoSaid : Prop := ballotCountsUptoRow.holds Try.pinned (OpenSpec.upto ballotCountsSpec)

/-- 'hustingslaw9.BallotBinds', WHERE WHAT IT READS IS OF BULK AT MOST 1048576: true; the input reads as it did. -/
def ballotBindsUptoRow : OpenClaim := { program := "ytipgjookfdkciaa", sum := "e8cb3a30fda1a583a3e910ebf0568ebd11ac0df964e5fb09ad602817c456c401", func := "hustings/hustingslaw9.BallotBinds", spec := "ballotBinds", inPlace := ["math/bits.Add64", "math/bits.Sub64"], unfollowed := true, recurses := true, apart := false, narrowed := true }
def BallotBindsUptoSaid : Prop := ballotBindsUptoRow.holds Try.pinned (OpenSpec.upto ballotBindsSpec)

/-- 'hustingslaw6.TrustJoins', WHERE WHAT IT READS IS OF BULK AT MOST 1048576: true; the input reads as it did. -/
def trustJoinsUptoRow : OpenClaim := { program := "ytipgjookfdkciaa", sum := "e8cb3a30fda1a583a3e910ebf0568ebd11ac0df964e5fb09ad602817c456c401", func := "hustings/hustingslaw6.TrustJoins", spec := "trustJoins", inPlace := ["math/bits.Add64", "math/bits.Sub64"], unfollowed := true, recurses := true, apart := false, narrowed := true }
def TrustJoinsUptoSaid : Prop := trustJoinsUptoRow.holds Try.pinned (OpenSpec.upto trustJoinsSpec)

/-- 'hustingslaw5.SigmaFirsts', WHERE WHAT IT READS IS OF BULK AT MOST 1048576: true; the input reads as it did. -/
def sigmaFirstsUptoRow : OpenClaim := { program := "ytipgjookfdkciaa", sum := "e8cb3a30fda1a583a3e910ebf0568ebd11ac0df964e5fb09ad602817c456c401", func := "hustings/hustingslaw5.SigmaFirsts", spec := "sigmaFirsts", inPlace := ["math/bits.Add64", "math/bits.Sub64"], unfollowed := true, recurses := true, apart := false, narrowed := true }
def SigmaFirstsUptoSaid : Prop := sigmaFirstsUptoRow.holds Try.pinned (OpenSpec.upto sigmaFirstsSpec)

/-- 'hustingslaw5.SigmaSound', WHERE WHAT IT READS IS OF BULK AT MOST 1048576: true; the input reads as it did. -/
def sigmaSoundUptoRow : OpenClaim := { program := "ytipgjookfdkciaa", sum := "e8cb3a30fda1a583a3e910ebf0568ebd11ac0df964e5fb09ad602817c456c401", func := "hustings/hustingslaw5.SigmaSound", spec := "sigmaSound", inPlace := ["math/bits.Add64", "math/bits.Sub64"], unfollowed := true, recurses := true, apart := false, narrowed := true }
def SigmaSoundUptoSaid : Prop := sigmaSoundUptoRow.holds Try.pinned (OpenSpec.upto sigmaSoundSpec)

/-- 'hustingslaw5.SigmaOnce', WHERE WHAT IT READS IS OF BULK AT MOST 1048576: true; the input reads as it did. -/
def sigmaOnceUptoRow : OpenClaim := { program := "ytipgjookfdkciaa", sum := "e8cb3a30fda1a583a3e910ebf0568ebd11ac0df964e5fb09ad602817c456c401", func := "hustings/hustingslaw5.SigmaOnce", spec := "sigmaOnce", inPlace := ["math/bits.Add64", "math/bits.Sub64"], unfollowed := true, recurses := true, apart := false, narrowed := true }
def SigmaOnceUptoSaid : Prop := sigmaOnceUptoRow.holds Try.pinned (OpenSpec.upto sigmaOnceSpec)

/-- 'hustingslaw5.SigmaHides', WHERE WHAT IT READS IS OF BULK AT MOST 1048576: true; the input reads as it did. -/
def sigmaHidesUptoRow : OpenClaim := { program := "ytipgjookfdkciaa", sum := "e8cb3a30fda1a583a3e910ebf0568ebd11ac0df964e5fb09ad602817c456c401", func := "hustings/hustingslaw5.SigmaHides", spec := "sigmaHides", inPlace := ["math/bits.Add64", "math/bits.Sub64"], unfollowed := true, recurses := true, apart := false, narrowed := true }
def SigmaHidesUptoSaid : Prop := sigmaHidesUptoRow.holds Try.pinned (OpenSpec.upto sigmaHidesSpec)

/-- 'hustingslaw5.SigmaForks', WHERE WHAT IT READS IS OF BULK AT MOST 1048576: true; the input reads as it did. -/
def sigmaForksUptoRow : OpenClaim := { program := "ytipgjookfdkciaa", sum := "e8cb3a30fda1a583a3e910ebf0568ebd11ac0df964e5fb09ad602817c456c401", func := "hustings/hustingslaw5.SigmaForks", spec := "sigmaForks", inPlace := ["math/bits.Add64", "math/bits.Sub64"], unfollowed := true, recurses := true, apart := false, narrowed := true }
def SigmaForksUptoSaid : Prop := sigmaForksUptoRow.holds Try.pinned (OpenSpec.upto sigmaForksSpec)

/-- 'hustingslaw12.TallyKeys', WHERE WHAT IT READS IS OF BULK AT MOST 1048576: true; the input reads as it did. -/
def tallyKeysUptoRow : OpenClaim := { program := "ytipgjookfdkciaa", sum := "e8cb3a30fda1a583a3e910ebf0568ebd11ac0df964e5fb09ad602817c456c401", func := "hustings/hustingslaw12.TallyKeys", spec := "tallyKeys", inPlace := ["math/bits.Add64", "math/bits.Sub64"], unfollowed := true, recurses := true, apart := false, narrowed := true }
def TallyKeysUptoSaid : Prop := tallyKeysUptoRow.holds Try.pinned (OpenSpec.upto tallyKeysSpec)

end Rows
end Go.Proofs.Ytipgjookfdkciaa
