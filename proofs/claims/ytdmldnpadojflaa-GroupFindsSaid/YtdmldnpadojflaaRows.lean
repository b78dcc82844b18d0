/-
  No cell of these rows narrows 'for every input' (looked for: loops, veiled, ifaces, maps, wideKeys, modest, calm, conditions, laid).
  DERIVED. THE GIVEN ROWS OF THIS SEAT. 10 by the template 'for every input the law returns true; each argument reads behind the call as it read before'; 0 by the template 'total and deterministic' (their statements: YtdmldnpadojflaaTotals.lean).
  GIVEN WITH THE SEED: the statements are not yours to turn. If you find one false, say at which input.
  Laid BY PROGRAM, IN A SANDBOX (cutbox-rows.mjs): the forced cells as the released guide's own fill.sh prints them over the translation 83b75b676f65e6a0… (all of the seat's roots in one cut). By AI agents, Wed Nov 11 2026. No macro, syntax, notation, axiom, sorry.
-/
import Derived.Test.YtdmldnpadojflaaChecked
import GoSem.Claim
import GoSem.ClaimJoined
import GoSem.ClaimMapViews
import Derived.JoinedTies
import Derived.KernelRfl
namespace Go.Proofs.Ytdmldnpadojflaa
/- THE CELL 'sum', in the pinned program and in every row, IS THE sha256 OF THE DUMP (.gsa) THAT YtdmldnpadojflaaProg.lean LOADS. Nothing in Lean hashes anything: it is a label: what it is worth is what the hold of that sum in a sandbox is worth. -/
noncomputable def Try.pinned : Pinned := { name := "ytdmldnpadojflaa", sum := "83b75b676f65e6a0dcb681f270a61e515c621956b91df2c015cf6af29dd2a258", checked := Try.checked }
namespace Rows
def none {H : Type} : Left H := { results := [], args := [] }

/-- 'hustingslaw3.GroupTells': WHATEVER THE INPUT: true; the input reads as it did. -/
def groupTellsSpec : ChangeSpec := { name := "groupTells", fn := fun _ => fun
  | [d] => { results := [.lit (.bool true)], args := [d] }
  | _ => none }
def groupTellsRow : OpenClaim := { program := "ytdmldnpadojflaa", sum := "83b75b676f65e6a0dcb681f270a61e515c621956b91df2c015cf6af29dd2a258", func := "hustings/hustingslaw3.GroupTells", spec := "groupTells", inPlace := ["math/bits.Add64", "math/bits.Sub64"], unfollowed := true, recurses := true, apart := false }
def GroupTellsSaid : Prop := groupTellsRow.holds Try.pinned (OpenSpec.ofChange groupTellsSpec)

/-- ITS FALSE NEIGHBOUR: 'it returns false'. Refute it at one input. -/
def groupTellsWrong : ChangeSpec := { name := "groupTells", fn := fun _ => fun
  | [d] => { results := [.lit (.bool false)], args := [d] }
  | _ => none }
def GroupTellsWrongFalsely : Prop := groupTellsRow.holds Try.pinned (OpenSpec.ofChange groupTellsWrong)

/-- 'hustingslaw3.GroupProducts': WHATEVER THE INPUT: true; the input reads as it did. -/
def groupProductsSpec : ChangeSpec := { name := "groupProducts", fn := fun _ => fun
  | [d1, d2, d3] => { results := [.lit (.bool true)], args := [d1, d2, d3] }
  | _ => none }
def groupProductsRow : OpenClaim := { program := "ytdmldnpadojflaa", sum := "83b75b676f65e6a0dcb681f270a61e515c621956b91df2c015cf6af29dd2a258", func := "hustings/hustingslaw3.GroupProducts", spec := "groupProducts", inPlace := ["math/bits.Add64", "math/bits.Sub64"], unfollowed := true, recurses := true, apart := false }
def GroupProductsSaid : Prop := groupProductsRow.holds Try.pinned (OpenSpec.ofChange groupProductsSpec)

/-- ITS FALSE NEIGHBOUR: 'it returns false'. Refute it at one input. -/
def groupProductsWrong : ChangeSpec := { name := "groupProducts", fn := fun _ => fun
  | [d1, d2, d3] => { results := [.lit (.bool false)], args := [d1, d2, d3] }
  | _ => none }
def GroupProductsWrongFalsely : Prop := groupProductsRow.holds Try.pinned (OpenSpec.ofChange groupProductsWrong)

/-- 'hustingslaw3.GroupKnows': WHATEVER THE INPUT: true; the input reads as it did. -/
def groupKnowsSpec : ChangeSpec := { name := "groupKnows", fn := fun _ => fun
  | [d1, d2, d3] => { results := [.lit (.bool true)], args := [d1, d2, d3] }
  | _ => none }
def groupKnowsRow : OpenClaim := { program := "ytdmldnpadojflaa", sum := "83b75b676f65e6a0dcb681f270a61e515c621956b91df2c015cf6af29dd2a258", func := "hustings/hustingslaw3.GroupKnows", spec := "groupKnows", inPlace := ["math/bits.Add64", "math/bits.Sub64"], unfollowed := true, recurses := true, apart := false }
def GroupKnowsSaid : Prop := groupKnowsRow.holds Try.pinned (OpenSpec.ofChange groupKnowsSpec)

/-- ITS FALSE NEIGHBOUR: 'it returns false'. Refute it at one input. -/
def groupKnowsWrong : ChangeSpec := { name := "groupKnows", fn := fun _ => fun
  | [d1, d2, d3] => { results := [.lit (.bool false)], args := [d1, d2, d3] }
  | _ => none }
def GroupKnowsWrongFalsely : Prop := groupKnowsRow.holds Try.pinned (OpenSpec.ofChange groupKnowsWrong)

/-- 'hustingslaw3.GroupReckons': WHATEVER THE INPUT: true; the input reads as it did. -/
def groupReckonsSpec : ChangeSpec := { name := "groupReckons", fn := fun _ => fun
  | [d1, d2, d3] => { results := [.lit (.bool true)], args := [d1, d2, d3] }
  | _ => none }
def groupReckonsRow : OpenClaim := { program := "ytdmldnpadojflaa", sum := "83b75b676f65e6a0dcb681f270a61e515c621956b91df2c015cf6af29dd2a258", func := "hustings/hustingslaw3.GroupReckons", spec := "groupReckons", inPlace := ["math/bits.Add64", "math/bits.Sub64"], unfollowed := true, recurses := true, apart := false }
def GroupReckonsSaid : Prop := groupReckonsRow.holds Try.pinned (OpenSpec.ofChange groupReckonsSpec)

/-- ITS FALSE NEIGHBOUR: 'it returns false'. Refute it at one input. -/
def groupReckonsWrong : ChangeSpec := { name := "groupReckons", fn := fun _ => fun
  | [d1, d2, d3] => { results := [.lit (.bool false)], args := [d1, d2, d3] }
  | _ => none }
def GroupReckonsWrongFalsely : Prop := groupReckonsRow.holds Try.pinned (OpenSpec.ofChange groupReckonsWrong)

/-- 'hustingslaw3.GroupLogs': WHATEVER THE INPUT: true; the input reads as it did. -/
def groupLogsSpec : ChangeSpec := { name := "groupLogs", fn := fun _ => fun
  | [d1, d2, d3] => { results := [.lit (.bool true)], args := [d1, d2, d3] }
  | _ => none }
def groupLogsRow : OpenClaim := { program := "ytdmldnpadojflaa", sum := "83b75b676f65e6a0dcb681f270a61e515c621956b91df2c015cf6af29dd2a258", func := "hustings/hustingslaw3.GroupLogs", spec := "groupLogs", inPlace := ["math/bits.Add64", "math/bits.Sub64"], unfollowed := true, recurses := true, apart := false }
def GroupLogsSaid : Prop := groupLogsRow.holds Try.pinned (OpenSpec.ofChange groupLogsSpec)

/-- ITS FALSE NEIGHBOUR: 'it returns false'. Refute it at one input. -/
def groupLogsWrong : ChangeSpec := { name := "groupLogs", fn := fun _ => fun
  | [d1, d2, d3] => { results := [.lit (.bool false)], args := [d1, d2, d3] }
  | _ => none }
def GroupLogsWrongFalsely : Prop := groupLogsRow.holds Try.pinned (OpenSpec.ofChange groupLogsWrong)

/-- 'hustingslaw3.GroupElems': WHATEVER THE INPUT: true; the input reads as it did. -/
def groupElemsSpec : ChangeSpec := { name := "groupElems", fn := fun _ => fun
  | [d1, d2, d3, d4] => { results := [.lit (.bool true)], args := [d1, d2, d3, d4] }
  | _ => none }
def groupElemsRow : OpenClaim := { program := "ytdmldnpadojflaa", sum := "83b75b676f65e6a0dcb681f270a61e515c621956b91df2c015cf6af29dd2a258", func := "hustings/hustingslaw3.GroupElems", spec := "groupElems", inPlace := ["math/bits.Add64", "math/bits.Sub64"], unfollowed := true, recurses := true, apart := false }
def GroupElemsSaid : Prop := groupElemsRow.holds Try.pinned (OpenSpec.ofChange groupElemsSpec)

/-- ITS FALSE NEIGHBOUR: 'it returns false'. Refute it at one input. -/
def groupElemsWrong : ChangeSpec := { name := "groupElems", fn := fun _ => fun
  | [d1, d2, d3, d4] => { results := [.lit (.bool false)], args := [d1, d2, d3, d4] }
  | _ => none }
def GroupElemsWrongFalsely : Prop := groupElemsRow.holds Try.pinned (OpenSpec.ofChange groupElemsWrong)

/-- 'hustingslaw3.GroupField': WHATEVER THE INPUT: true; the input reads as it did. -/
def groupFieldSpec : ChangeSpec := { name := "groupField", fn := fun _ => fun
  | [d1, d2, d3, d4] => { results := [.lit (.bool true)], args := [d1, d2, d3, d4] }
  | _ => none }
def groupFieldRow : OpenClaim := { program := "ytdmldnpadojflaa", sum := "83b75b676f65e6a0dcb681f270a61e515c621956b91df2c015cf6af29dd2a258", func := "hustings/hustingslaw3.GroupField", spec := "groupField", inPlace := ["math/bits.Add64", "math/bits.Sub64"], unfollowed := true, recurses := true, apart := false }
def GroupFieldSaid : Prop := groupFieldRow.holds Try.pinned (OpenSpec.ofChange groupFieldSpec)

/-- ITS FALSE NEIGHBOUR: 'it returns false'. Refute it at one input. -/
def groupFieldWrong : ChangeSpec := { name := "groupField", fn := fun _ => fun
  | [d1, d2, d3, d4] => { results := [.lit (.bool false)], args := [d1, d2, d3, d4] }
  | _ => none }
def GroupFieldWrongFalsely : Prop := groupFieldRow.holds Try.pinned (OpenSpec.ofChange groupFieldWrong)

/-- 'hustingslaw3.GroupAsks': WHATEVER THE INPUT: true; the input reads as it did. -/
def groupAsksSpec : ChangeSpec := { name := "groupAsks", fn := fun _ => fun
  | [d1, d2, d3] => { results := [.lit (.bool true)], args := [d1, d2, d3] }
  | _ => none }
def groupAsksRow : OpenClaim := { program := "ytdmldnpadojflaa", sum := "83b75b676f65e6a0dcb681f270a61e515c621956b91df2c015cf6af29dd2a258", func := "hustings/hustingslaw3.GroupAsks", spec := "groupAsks", inPlace := ["math/bits.Add64", "math/bits.Sub64"], unfollowed := true, recurses := true, apart := false }
def GroupAsksSaid : Prop := groupAsksRow.holds Try.pinned (OpenSpec.ofChange groupAsksSpec)

/-- ITS FALSE NEIGHBOUR: 'it returns false'. Refute it at one input. -/
def groupAsksWrong : ChangeSpec := { name := "groupAsks", fn := fun _ => fun
  | [d1, d2, d3] => { results := [.lit (.bool false)], args := [d1, d2, d3] }
  | _ => none }
def GroupAsksWrongFalsely : Prop := groupAsksRow.holds Try.pinned (OpenSpec.ofChange groupAsksWrong)

/-- 'hustingslaw3.GroupFinds': WHATEVER THE INPUT: true; the input reads as it did. -/
def groupFindsSpec : ChangeSpec := { name := "groupFinds", fn := fun _ => fun
  | [d1, d2, d3, d4] => { results := [.lit (.bool true)], args := [d1, d2, d3, d4] }
  | _ => none }
def groupFindsRow : OpenClaim := { program := "ytdmldnpadojflaa", sum := "83b75b676f65e6a0dcb681f270a61e515c621956b91df2c015cf6af29dd2a258", func := "hustings/hustingslaw3.GroupFinds", spec := "groupFinds", inPlace := ["math/bits.Add64", "math/bits.Sub64"], unfollowed := true, recurses := true, apart := false }
def GroupFindsSaid : Prop := groupFindsRow.holds Try.pinned (OpenSpec.ofChange groupFindsSpec)

/-- ITS FALSE NEIGHBOUR: 'it returns false'. Refute it at one input. -/
def groupFindsWrong : ChangeSpec := { name := "groupFinds", fn := fun _ => fun
  | [d1, d2, d3, d4] => { results := [.lit (.bool false)], args := [d1, d2, d3, d4] }
  | _ => none }
def GroupFindsWrongFalsely : Prop := groupFindsRow.holds Try.pinned (OpenSpec.ofChange groupFindsWrong)

/-- 'hustingslaw3.GroupLaw': WHATEVER THE INPUT: true; the input reads as it did. -/
def groupLawSpec : ChangeSpec := { name := "groupLaw", fn := fun _ => fun
  | [d1, d2, d3, d4, d5, d6] => { results := [.lit (.bool true)], args := [d1, d2, d3, d4, d5, d6] }
  | _ => none }
def groupLawRow : OpenClaim := { program := "ytdmldnpadojflaa", sum := "83b75b676f65e6a0dcb681f270a61e515c621956b91df2c015cf6af29dd2a258", func := "hustings/hustingslaw3.GroupLaw", spec := "groupLaw", inPlace := ["math/bits.Add64", "math/bits.Sub64"], unfollowed := true, recurses := true, apart := false }
def GroupLawSaid : Prop := groupLawRow.holds Try.pinned (OpenSpec.ofChange groupLawSpec)

/-- ITS FALSE NEIGHBOUR: 'it returns false'. Refute it at one input. -/
def groupLawWrong : ChangeSpec := { name := "groupLaw", fn := fun _ => fun
  | [d1, d2, d3, d4, d5, d6] => { results := [.lit (.bool false)], args := [d1, d2, d3, d4, d5, d6] }
  | _ => none }
def GroupLawWrongFalsely : Prop := groupLawRow.holds Try.pinned (OpenSpec.ofChange groupLawWrong)

/- THE SECOND FORM. 'bulk': how many values and letters a reading holds, each counted each time it is reached (what is shared counts as often as it is met; a slice's spare places count too). A statement '..UptoSaid' is the law's where the arguments, and the package variables that the reading takes, are together of bulk at most 1048576: NARROWER than '..Said'. Prove '..Said' where nothing that the law and all that it calls make is longer than what came in: it says more and counts as full. Else prove '..UptoSaid'. A law counts once. -/
mutual
def uptoBulk {H : Type} : DataW H → Nat
  | .lit (.string bytes) => bytes.length + 1
  | .lit _ => 1
  | .nil => 1
  | .ptr d => uptoBulk d + 1
  | .slice elems spare => uptoBulkAll elems + uptoBulkAll spare + 1
  | .agg parts => uptoBulkAll parts + 1
  | .iface _ d => uptoBulk d + 1
  | .map entries => uptoBulkEntries entries + 1
  | .held _ => 1
def uptoBulkAll {H : Type} : List (DataW H) → Nat
  | [] => 0
  | d :: r => uptoBulk d + uptoBulkAll r
def uptoBulkEntries {H : Type} : List (Lit × DataW H) → Nat
  | [] => 0
  | x :: r => uptoBulkEntry x + uptoBulkEntries r
def uptoBulkEntry {H : Type} : Lit × DataW H → Nat
  | (.string bytes, d) => bytes.length + uptoBulk d + 1
  | (_, d) => uptoBulk d + 1
 end
def uptoSmall : (H : Type) → List (DataW H) → Bool := fun _ ds => decide (uptoBulkAll ds ≤ 1048576)
def OpenSpec.upto (s : _root_.Go.ChangeSpec) : _root_.Go.OpenSpec := { _root_.Go.OpenSpec.ofChange s with cond := some uptoSmall }

/-- 'hustingslaw3.GroupTells', WHERE WHAT IT READS IS OF BULK AT MOST 1048576: true; the input reads as it did. -/
def groupTellsUptoRow : OpenClaim := { program := "ytdmldnpadojflaa", sum := "83b75b676f65e6a0dcb681f270a61e515c621956b91df2c015cf6af29dd2a258", func := "hustings/hustingslaw3.GroupTells", spec := "groupTells", inPlace := ["math/bits.Add64", "math/bits.Sub64"], unfollowed := true, recurses := true, apart := false, narrowed := true }
def GroupTellsUptoSaid : Prop := groupTellsUptoRow.holds Try.pinned (OpenSpec.upto groupTellsSpec)

/-- 'hustingslaw3.GroupProducts', WHERE WHAT IT READS IS OF BULK AT MOST 1048576: true; the input reads as it did. -/
def groupProductsUptoRow : OpenClaim := { program := "ytdmldnpadojflaa", sum := "83b75b676f65e6a0dcb681f270a61e515c621956b91df2c015cf6af29dd2a258", func := "hustings/hustingslaw3.GroupProducts", spec := "groupProducts", inPlace := ["math/bits.Add64", "math/bits.Sub64"], unfollowed := true, recurses := true, apart := false, narrowed := true }
def GroupProductsUptoSaid : Prop := groupProductsUptoRow.holds Try.pinned (OpenSpec.upto groupProductsSpec)

/-- 'hustingslaw3.GroupKnows', WHERE WHAT IT READS IS OF BULK AT MOST 1048576: true; the input reads as it did. -/
def groupKnowsUptoRow : OpenClaim := { program := "ytdmldnpadojflaa", sum := "83b75b676f65e6a0dcb681f270a61e515c621956b91df2c015cf6af29dd2a258", func := "hustings/hustingslaw3.GroupKnows", spec := "groupKnows", inPlace := ["math/bits.Add64", "math/bits.Sub64"], unfollowed := true, recurses := true, apart := false, narrowed := true }
def GroupKnowsUptoSaid : Prop := groupKnowsUptoRow.holds Try.pinned (OpenSpec.upto groupKnowsSpec)

/-- 'hustingslaw3.GroupReckons', WHERE WHAT IT READS IS OF BULK AT MOST 1048576: true; the input reads as it did. -/
def groupReckonsUptoRow : OpenClaim := { program := "ytdmldnpadojflaa", sum := "83b75b676f65e6a0dcb681f270a61e515c621956b91df2c015cf6af29dd2a258", func := "hustings/hustingslaw3.GroupReckons", spec := "groupReckons", inPlace := ["math/bits.Add64", "math/bits.Sub64"], unfollowed := true, recurses := true, apart := false, narrowed := true }
def GroupReckonsUptoSaid : Prop := groupReckonsUptoRow.holds Try.pinned (OpenSpec.upto groupReckonsSpec)

/-- 'hustingslaw3.GroupLogs', WHERE WHAT IT READS IS OF BULK AT MOST 1048576: true; the input reads as it did. -/
def groupLogsUptoRow : OpenClaim := { program := "ytdmldnpadojflaa", sum := "83b75b676f65e6a0dcb681f270a61e515c621956b91df2c015cf6af29dd2a258", func := "hustings/hustingslaw3.GroupLogs", spec := "groupLogs", inPlace := ["math/bits.Add64", "math/bits.Sub64"], unfollowed := true, recurses := true, apart := false, narrowed := true }
def GroupLogsUptoSaid : Prop := groupLogsUptoRow.holds Try.pinned (OpenSpec.upto groupLogsSpec)

/-- 'hustingslaw3.GroupElems', WHERE WHAT IT READS IS OF BULK AT MOST 1048576: true; the input reads as it did. -/
def groupElemsUptoRow : OpenClaim := { program := "ytdmldnpadojflaa", sum := "83b75b676f65e6a0dcb681f270a61e515c621956b91df2c015cf6af29dd2a258", func := "hustings/hustingslaw3.GroupElems", spec := "groupElems", inPlace := ["math/bits.Add64", "math/bits.Sub64"], unfollowed := true, recurses := true, apart := false, narrowed := true }
def GroupElemsUptoSaid : Prop := groupElemsUptoRow.holds Try.pinned (OpenSpec.upto groupElemsSpec)

/-- 'hustingslaw3.GroupField', WHERE WHAT IT READS IS OF BULK AT MOST 1048576: true; the input reads as it did. -/
def groupFieldUptoRow : OpenClaim := { program := "ytdmldnpadojflaa", sum := "83b75b676f65e6a0dcb681f270a61e515c621956b91df2c015cf6af29dd2a258", func := "hustings/hustingslaw3.GroupField", spec := "groupField", inPlace := ["math/bits.Add64", "math/bits.Sub64"], unfollowed := true, recurses := true, apart := false, narrowed := true }
def GroupFieldUptoSaid : Prop := groupFieldUptoRow.holds Try.pinned (OpenSpec.upto groupFieldSpec)

/-- 'hustingslaw3.GroupAsks', WHERE WHAT IT READS IS OF BULK AT MOST 1048576: true; the input reads as it did. -/
def groupAsksUptoRow : OpenClaim := { program := "ytdmldnpadojflaa", sum := "83b75b676f65e6a0dcb681f270a61e515c621956b91df2c015cf6af29dd2a258", func := "hustings/hustingslaw3.GroupAsks", spec := "groupAsks", inPlace := ["math/bits.Add64", "math/bits.Sub64"], unfollowed := true, recurses := true, apart := false, narrowed := true }
def GroupAsksUptoSaid : Prop := groupAsksUptoRow.holds Try.pinned (OpenSpec.upto groupAsksSpec)

/-- 'hustingslaw3.GroupFinds', WHERE WHAT IT READS IS OF BULK AT MOST 1048576: true; the input reads as it did. -/
def groupFindsUptoRow : OpenClaim := { program := "ytdmldnpadojflaa", sum := "83b75b676f65e6a0dcb681f270a61e515c621956b91df2c015cf6af29dd2a258", func := "hustings/hustingslaw3.GroupFinds", spec := "groupFinds", inPlace := ["math/bits.Add64", "math/bits.Sub64"], unfollowed := true, recurses := true, apart := false, narrowed := true }
def GroupFindsUptoSaid : Prop := groupFindsUptoRow.holds Try.pinned (OpenSpec.upto groupFindsSpec)

/-- 'hustingslaw3.GroupLaw', WHERE WHAT IT READS IS OF BULK AT MOST 1048576: true; the input reads as it did. -/
def groupLawUptoRow : OpenClaim := { program := "ytdmldnpadojflaa", sum := "83b75b676f65e6a0dcb681f270a61e515c621956b91df2c015cf6af29dd2a258", func := "hustings/hustingslaw3.GroupLaw", spec := "groupLaw", inPlace := ["math/bits.Add64", "math/bits.Sub64"], unfollowed := true, recurses := true, apart := false, narrowed := true }
def GroupLawUptoSaid : Prop := groupLawUptoRow.holds Try.pinned (OpenSpec.upto groupLawSpec)

end Rows
end Go.Proofs.Ytdmldnpadojflaa
