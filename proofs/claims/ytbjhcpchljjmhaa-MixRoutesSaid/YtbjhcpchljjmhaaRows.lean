/-
  No cell of these rows narrows 'for every input' (looked for: loops, veiled, ifaces, maps, wideKeys, modest, calm, conditions, laid).
  DERIVED. THE GIVEN ROWS OF THIS SEAT. 6 by the template 'for every input the law returns true; each argument reads behind the call as it read before'; 0 by the template 'total and deterministic' (their statements: YtbjhcpchljjmhaaTotals.lean).
  GIVEN WITH THE SEED: the statements are not yours to turn. If you find one false, say at which input.
  Laid BY PROGRAM, IN A SANDBOX (cutbox-rows.mjs): the forced cells as the released guide's own fill.sh prints them over the translation e666d76a873b283e… (all of the seat's roots in one cut). By AI agents, Wed Nov 11 2026. No macro, syntax, notation, axiom, sorry.
-/
import Derived.Test.YtbjhcpchljjmhaaChecked
import GoSem.Claim
import GoSem.ClaimJoined
import GoSem.ClaimMapViews
import Derived.JoinedTies
import Derived.KernelRfl
namespace Go.Proofs.Ytbjhcpchljjmhaa
/- THE CELL 'sum', in the pinned program and in every row, IS THE sha256 OF THE DUMP (.gsa) THAT YtbjhcpchljjmhaaProg.lean LOADS. Nothing in Lean hashes anything: it is a label: what it is worth is what the hold of that sum in a sandbox is worth. -/
noncomputable def Try.pinned : Pinned := { name := "ytbjhcpchljjmhaa", sum := "e666d76a873b283e9611320ba55aaa365537bae7286eb8337f76f6bb552ca0f1", checked := Try.checked }
namespace Rows
def none {H : Type} : Left H := { results := [], args := [] }

/-- 'hustingslaw9.BallotFits': WHATEVER THE INPUT: true; the input reads as it did. -/
def ballotFitsSpec : ChangeSpec := { name := "ballotFits", fn := fun _ => fun
  | [d1, d2] => { results := [.lit (.bool true)], args := [d1, d2] }
  | _ => none }
def ballotFitsRow : OpenClaim := { program := "ytbjhcpchljjmhaa", sum := "e666d76a873b283e9611320ba55aaa365537bae7286eb8337f76f6bb552ca0f1", func := "hustings/hustingslaw9.BallotFits", spec := "ballotFits", apart := false }
def BallotFitsSaid : Prop := ballotFitsRow.holds Try.pinned (OpenSpec.ofChange ballotFitsSpec)

/-- ITS FALSE NEIGHBOUR: 'it returns false'. Refute it at one input. -/
def ballotFitsWrong : ChangeSpec := { name := "ballotFits", fn := fun _ => fun
  | [d1, d2] => { results := [.lit (.bool false)], args := [d1, d2] }
  | _ => none }
def BallotFitsWrongFalsely : Prop := ballotFitsRow.holds Try.pinned (OpenSpec.ofChange ballotFitsWrong)

/-- 'hustingslaw11.MixFew': WHATEVER THE INPUT: true; the input reads as it did. -/
def mixFewSpec : ChangeSpec := { name := "mixFew", fn := fun _ => fun
  | [d] => { results := [.lit (.bool true)], args := [d] }
  | _ => none }
def mixFewRow : OpenClaim := { program := "ytbjhcpchljjmhaa", sum := "e666d76a873b283e9611320ba55aaa365537bae7286eb8337f76f6bb552ca0f1", func := "hustings/hustingslaw11.MixFew", spec := "mixFew", unfollowed := true, recurses := true, apart := false }
def MixFewSaid : Prop := mixFewRow.holds Try.pinned (OpenSpec.ofChange mixFewSpec)

/-- ITS FALSE NEIGHBOUR: 'it returns false'. Refute it at one input. -/
def mixFewWrong : ChangeSpec := { name := "mixFew", fn := fun _ => fun
  | [d] => { results := [.lit (.bool false)], args := [d] }
  | _ => none }
def MixFewWrongFalsely : Prop := mixFewRow.holds Try.pinned (OpenSpec.ofChange mixFewWrong)

/-- 'hustingslaw7.BoardCovers': WHATEVER THE INPUT: true; the input reads as it did. -/
def boardCoversSpec : ChangeSpec := { name := "boardCovers", fn := fun _ => fun
  | [d1, d2] => { results := [.lit (.bool true)], args := [d1, d2] }
  | _ => none }
def boardCoversRow : OpenClaim := { program := "ytbjhcpchljjmhaa", sum := "e666d76a873b283e9611320ba55aaa365537bae7286eb8337f76f6bb552ca0f1", func := "hustings/hustingslaw7.BoardCovers", spec := "boardCovers", unfollowed := true, recurses := true, apart := false }
def BoardCoversSaid : Prop := boardCoversRow.holds Try.pinned (OpenSpec.ofChange boardCoversSpec)

/-- ITS FALSE NEIGHBOUR: 'it returns false'. Refute it at one input. -/
def boardCoversWrong : ChangeSpec := { name := "boardCovers", fn := fun _ => fun
  | [d1, d2] => { results := [.lit (.bool false)], args := [d1, d2] }
  | _ => none }
def BoardCoversWrongFalsely : Prop := boardCoversRow.holds Try.pinned (OpenSpec.ofChange boardCoversWrong)

/-- 'hustingslaw11.MixRuns': WHATEVER THE INPUT: true; the input reads as it did. -/
def mixRunsSpec : ChangeSpec := { name := "mixRuns", fn := fun _ => fun
  | [d1, d2] => { results := [.lit (.bool true)], args := [d1, d2] }
  | _ => none }
def mixRunsRow : OpenClaim := { program := "ytbjhcpchljjmhaa", sum := "e666d76a873b283e9611320ba55aaa365537bae7286eb8337f76f6bb552ca0f1", func := "hustings/hustingslaw11.MixRuns", spec := "mixRuns", unfollowed := true, recurses := true, apart := false }
def MixRunsSaid : Prop := mixRunsRow.holds Try.pinned (OpenSpec.ofChange mixRunsSpec)

/-- ITS FALSE NEIGHBOUR: 'it returns false'. Refute it at one input. -/
def mixRunsWrong : ChangeSpec := { name := "mixRuns", fn := fun _ => fun
  | [d1, d2] => { results := [.lit (.bool false)], args := [d1, d2] }
  | _ => none }
def MixRunsWrongFalsely : Prop := mixRunsRow.holds Try.pinned (OpenSpec.ofChange mixRunsWrong)

/-- 'hustingslaw11.MixRoutes': WHATEVER THE INPUT: true; the input reads as it did. -/
def mixRoutesSpec : ChangeSpec := { name := "mixRoutes", fn := fun _ => fun
  | [d] => { results := [.lit (.bool true)], args := [d] }
  | _ => none }
def mixRoutesRow : OpenClaim := { program := "ytbjhcpchljjmhaa", sum := "e666d76a873b283e9611320ba55aaa365537bae7286eb8337f76f6bb552ca0f1", func := "hustings/hustingslaw11.MixRoutes", spec := "mixRoutes", recurses := true, apart := false }
def MixRoutesSaid : Prop := mixRoutesRow.holds Try.pinned (OpenSpec.ofChange mixRoutesSpec)

/-- ITS FALSE NEIGHBOUR: 'it returns false'. Refute it at one input. -/
def mixRoutesWrong : ChangeSpec := { name := "mixRoutes", fn := fun _ => fun
  | [d] => { results := [.lit (.bool false)], args := [d] }
  | _ => none }
def MixRoutesWrongFalsely : Prop := mixRoutesRow.holds Try.pinned (OpenSpec.ofChange mixRoutesWrong)

/-- 'hustingstop.Names': WHATEVER THE INPUT: true; the input reads as it did. -/
def namesSpec : ChangeSpec := { name := "names", fn := fun _ => fun
  | [] => { results := [.lit (.bool true)], args := [] }
  | _ => none }
def namesRow : OpenClaim := { program := "ytbjhcpchljjmhaa", sum := "e666d76a873b283e9611320ba55aaa365537bae7286eb8337f76f6bb552ca0f1", func := "hustings/hustingstop.Names", spec := "names", apart := false }
def NamesSaid : Prop := namesRow.holds Try.pinned (OpenSpec.ofChange namesSpec)

/-- ITS FALSE NEIGHBOUR: 'it returns false'. Refute it at one input. -/
def namesWrong : ChangeSpec := { name := "names", fn := fun _ => fun
  | [] => { results := [.lit (.bool false)], args := [] }
  | _ => none }
def NamesWrongFalsely : Prop := namesRow.holds Try.pinned (OpenSpec.ofChange namesWrong)

/- THE SECOND FORM. 'bulk': how many values and letters a reading holds, each counted each time it is reached (what is shared counts as often as it is met; a slice's spare places count too). A statement '..UptoSaid' is the law's where the arguments, and the package variables that the reading takes, are together of bulk at most 1048576: NARROWER than '..Said'. Prove '..Said' where nothing that the law and all that it calls make is longer than what came in: it says more and counts as full. Else prove '..UptoSaid'. A law counts once. -/
mutual
def uptoBulk {H : Type} : DataW H → Nat
  | .lit (.string bytes) => bytes.length + 1
  | .lit _ => 1
  | .nil => 1
  | .ptr d => uptoBulk d + 1
  | .slice elems spare => uptoBulkAll elems + uptoBulkAll spare + 1
  | .agg parts => uptoBulkAll parts + 1
  | .iface _ d => uptoBulk d + 1
  | .map entries => uptoBulkEntries entries + 1
  | .held _ => 1
def uptoBulkAll {H : Type} : List (DataW H) → Nat
  | [] => 0
  | d :: r => uptoBulk d + uptoBulkAll r
def uptoBulkEntries {H : Type} : List (Lit × DataW H) → Nat
  | [] => 0
  | x :: r => uptoBulkEntry x + uptoBulkEntries r
def uptoBulkEntry {H : Type} : Lit × DataW H → Nat
  | (.string bytes, d) => bytes.length + uptoBulk d + 1
  | (_, d) => uptoBulk d + 1
 end
def uptoSmall : (H : Type) → List (DataW H) → Bool := fun _ ds => decide (uptoBulkAll ds ≤ 1048576)
def OpenSpec.upto (s : _root_.Go.ChangeSpec) : _root_.Go.OpenSpec := { _root_.Go.OpenSpec.ofChange s with cond := some uptoSmall }

/-- 'hustingslaw9.BallotFits', WHERE WHAT IT READS IS OF BULK AT MOST 1048576: true; the input reads as it did. -/
def ballotFitsUptoRow : OpenClaim := { program := "ytbjhcpchljjmhaa", sum := "e666d76a873b283e9611320ba55aaa365537bae7286eb8337f76f6bb552ca0f1", func := "hustings/hustingslaw9.BallotFits", spec := "ballotFits", apart := false, narrowed := true }
def BallotFitsUptoSaid : Prop := ballotFitsUptoRow.holds Try.pinned (OpenSpec.upto ballotFitsSpec)

/-- 'hustingslaw11.MixFew', WHERE WHAT IT READS IS OF BULK AT MOST 1048576: true; the input reads as it did. -/
def mixFewUptoRow : OpenClaim := { program := "ytbjhcpchljjmhaa", sum := "e666d76a873b283e9611320ba55aaa365537bae7286eb8337f76f6bb552ca0f1", func := "hustings/hustingslaw11.MixFew", spec := "mixFew", unfollowed := true, recurses := true, apart := false, narrowed := true }
def MixFewUptoSaid : Prop := mixFewUptoRow.holds Try.pinned (OpenSpec.upto mixFewSpec)

/-- 'hustingslaw7.BoardCovers', WHERE WHAT IT READS IS OF BULK AT MOST 1048576: true; the input reads as it did. -/
def boardCoversUptoRow : OpenClaim := { program := "ytbjhcpchljjmhaa", sum := "e666d76a873b283e9611320ba55aaa365537bae7286eb8337f76f6bb552ca0f1", func := "hustings/hustingslaw7.BoardCovers", spec := "boardCovers", unfollowed := true, recurses := true, apart := false, narrowed := true }
def BoardCoversUptoSaid : Prop := boardCoversUptoRow.holds Try.pinned (OpenSpec.upto boardCoversSpec)

/-- 'hustingslaw11.MixRuns', WHERE WHAT IT READS IS OF BULK AT MOST 1048576: true; the input reads as it did. -/
def mixRunsUptoRow : OpenClaim := { program := "ytbjhcpchljjmhaa", sum := "e666d76a873b283e9611320ba55aaa365537bae7286eb8337f76f6bb552ca0f1", func := "hustings/hustingslaw11.MixRuns", spec := "mixRuns", unfollowed := true, recurses := true, apart := false, narrowed := true }
def MixRunsUptoSaid : Prop := mixRunsUptoRow.holds Try.pinned (OpenSpec.upto mixRunsSpec)

/-- 'hustingslaw11.MixRoutes', WHERE WHAT IT READS IS OF BULK AT MOST 1048576: true; the input reads as it did. -/
def mixRoutesUptoRow : OpenClaim := { program := "ytbjhcpchljjmhaa", sum := "e666d76a873b283e9611320ba55aaa365537bae7286eb8337f76f6bb552ca0f1", func := "hustings/hustingslaw11.MixRoutes", spec := "mixRoutes", recurses := true, apart := false, narrowed := true }
def MixRoutesUptoSaid : Prop := mixRoutesUptoRow.holds Try.pinned (OpenSpec.upto mixRoutesSpec)

/-- 'hustingstop.Names', WHERE WHAT IT READS IS OF BULK AT MOST 1048576: true; the input reads as it did. -/
def namesUptoRow : OpenClaim := { program := "ytbjhcpchljjmhaa", sum := "e666d76a873b283e9611320ba55aaa365537bae7286eb8337f76f6bb552ca0f1", func := "hustings/hustingstop.Names", spec := "names", apart := false, narrowed := true }
def NamesUptoSaid : Prop := namesUptoRow.holds Try.pinned (OpenSpec.upto namesSpec)

end Rows
end Go.Proofs.Ytbjhcpchljjmhaa
