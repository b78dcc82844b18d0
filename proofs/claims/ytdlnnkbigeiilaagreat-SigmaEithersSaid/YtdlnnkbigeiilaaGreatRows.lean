/-
  No cell of these rows narrows 'for every input' (looked for: loops, veiled, ifaces, maps, wideKeys, modest, calm, conditions, laid).
  DERIVED. THE GIVEN ROWS OF THIS SEAT. 7 by the template 'for every input the law returns true; each argument reads behind the call as it read before'; 0 by the template 'total and deterministic' (their statements: YtdlnnkbigeiilaaGreatTotals.lean).
  GIVEN WITH THE SEED: the statements are not yours to turn. If you find one false, say at which input.
  Laid BY PROGRAM, IN A SANDBOX (cutbox-rows.mjs): the forced cells as the released guide's own fill.sh prints them over the translation 2d487d3175b21e3c… (all of the seat's roots in one cut). By AI agents, Wed Nov 11 2026. No macro, syntax, notation, axiom, sorry.
-/
import Derived.Test.YtdlnnkbigeiilaaGreatChecked
import GoSem.Claim
import GoSem.ClaimJoined
import GoSem.ClaimMapViews
import Derived.JoinedTies
import Derived.KernelRfl
namespace Go.Proofs.YtdlnnkbigeiilaaGreat
/- THE CELL 'sum', in the pinned program and in every row, IS THE sha256 OF THE DUMP (.gsa) THAT YtdlnnkbigeiilaaGreatProg.lean LOADS. Nothing in Lean hashes anything: it is a label: what it is worth is what the hold of that sum in a sandbox is worth. -/
noncomputable def Tryz.pinned : Pinned := { name := "ytdlnnkbigeiilaagreat", sum := "2d487d3175b21e3c5f5b31a9a658234bcbe79879feb039b110ae80f9cb3dcf19", checked := Tryz.checked }
namespace Rows
def none {H : Type} : Left H := { results := [], args := [] }

/-- 'hustingslaw5.SigmaVerifies': WHATEVER THE INPUT: true; the input reads as it did. -/
def sigmaVerifiesSpec : ChangeSpec := { name := "sigmaVerifies", fn := fun _ => fun
  | [d1, d2, d3, d4] => { results := [.lit (.bool true)], args := [d1, d2, d3, d4] }
  | _ => none }
def sigmaVerifiesRow : OpenClaim := { program := "ytdlnnkbigeiilaagreat", sum := "2d487d3175b21e3c5f5b31a9a658234bcbe79879feb039b110ae80f9cb3dcf19", func := "hustings/hustingslaw5.SigmaVerifies", spec := "sigmaVerifies", inPlace := ["math/bits.Add64", "math/bits.Sub64", "internal/abi.NoEscape", "internal/bytealg.MakeNoZero"], unfollowed := true, recurses := true, apart := false }
def SigmaVerifiesSaid : Prop := sigmaVerifiesRow.holds Tryz.pinned (OpenSpec.ofChange sigmaVerifiesSpec)

/-- ITS FALSE NEIGHBOUR: 'it returns false'. Refute it at one input. -/
def sigmaVerifiesWrong : ChangeSpec := { name := "sigmaVerifies", fn := fun _ => fun
  | [d1, d2, d3, d4] => { results := [.lit (.bool false)], args := [d1, d2, d3, d4] }
  | _ => none }
def SigmaVerifiesWrongFalsely : Prop := sigmaVerifiesRow.holds Tryz.pinned (OpenSpec.ofChange sigmaVerifiesWrong)

/-- 'hustingslaw5.SigmaChecks': WHATEVER THE INPUT: true; the input reads as it did. -/
def sigmaChecksSpec : ChangeSpec := { name := "sigmaChecks", fn := fun _ => fun
  | [d1, d2, d3, d4] => { results := [.lit (.bool true)], args := [d1, d2, d3, d4] }
  | _ => none }
def sigmaChecksRow : OpenClaim := { program := "ytdlnnkbigeiilaagreat", sum := "2d487d3175b21e3c5f5b31a9a658234bcbe79879feb039b110ae80f9cb3dcf19", func := "hustings/hustingslaw5.SigmaChecks", spec := "sigmaChecks", inPlace := ["math/bits.Add64", "math/bits.Sub64", "internal/abi.NoEscape", "internal/bytealg.MakeNoZero"], unfollowed := true, recurses := true, apart := false }
def SigmaChecksSaid : Prop := sigmaChecksRow.holds Tryz.pinned (OpenSpec.ofChange sigmaChecksSpec)

/-- ITS FALSE NEIGHBOUR: 'it returns false'. Refute it at one input. -/
def sigmaChecksWrong : ChangeSpec := { name := "sigmaChecks", fn := fun _ => fun
  | [d1, d2, d3, d4] => { results := [.lit (.bool false)], args := [d1, d2, d3, d4] }
  | _ => none }
def SigmaChecksWrongFalsely : Prop := sigmaChecksRow.holds Tryz.pinned (OpenSpec.ofChange sigmaChecksWrong)

/-- 'hustingslaw5.SigmaProves': WHATEVER THE INPUT: true; the input reads as it did. -/
def sigmaProvesSpec : ChangeSpec := { name := "sigmaProves", fn := fun _ => fun
  | [d1, d2, d3, d4, d5] => { results := [.lit (.bool true)], args := [d1, d2, d3, d4, d5] }
  | _ => none }
def sigmaProvesRow : OpenClaim := { program := "ytdlnnkbigeiilaagreat", sum := "2d487d3175b21e3c5f5b31a9a658234bcbe79879feb039b110ae80f9cb3dcf19", func := "hustings/hustingslaw5.SigmaProves", spec := "sigmaProves", inPlace := ["math/bits.Add64", "math/bits.Sub64", "internal/abi.NoEscape", "internal/bytealg.MakeNoZero"], unfollowed := true, recurses := true, apart := false }
def SigmaProvesSaid : Prop := sigmaProvesRow.holds Tryz.pinned (OpenSpec.ofChange sigmaProvesSpec)

/-- ITS FALSE NEIGHBOUR: 'it returns false'. Refute it at one input. -/
def sigmaProvesWrong : ChangeSpec := { name := "sigmaProves", fn := fun _ => fun
  | [d1, d2, d3, d4, d5] => { results := [.lit (.bool false)], args := [d1, d2, d3, d4, d5] }
  | _ => none }
def SigmaProvesWrongFalsely : Prop := sigmaProvesRow.holds Tryz.pinned (OpenSpec.ofChange sigmaProvesWrong)

/-- 'hustingslaw5.SigmaEithers': WHATEVER THE INPUT: true; the input reads as it did. -/
def sigmaEithersSpec : ChangeSpec := { name := "sigmaEithers", fn := fun _ => fun
  | [d1, d2, d3, d4, d5, d6] => { results := [.lit (.bool true)], args := [d1, d2, d3, d4, d5, d6] }
  | _ => none }
def sigmaEithersRow : OpenClaim := { program := "ytdlnnkbigeiilaagreat", sum := "2d487d3175b21e3c5f5b31a9a658234bcbe79879feb039b110ae80f9cb3dcf19", func := "hustings/hustingslaw5.SigmaEithers", spec := "sigmaEithers", inPlace := ["math/bits.Add64", "math/bits.Sub64", "internal/abi.NoEscape", "internal/bytealg.MakeNoZero"], unfollowed := true, recurses := true, apart := false }
def SigmaEithersSaid : Prop := sigmaEithersRow.holds Tryz.pinned (OpenSpec.ofChange sigmaEithersSpec)

/-- ITS FALSE NEIGHBOUR: 'it returns false'. Refute it at one input. -/
def sigmaEithersWrong : ChangeSpec := { name := "sigmaEithers", fn := fun _ => fun
  | [d1, d2, d3, d4, d5, d6] => { results := [.lit (.bool false)], args := [d1, d2, d3, d4, d5, d6] }
  | _ => none }
def SigmaEithersWrongFalsely : Prop := sigmaEithersRow.holds Tryz.pinned (OpenSpec.ofChange sigmaEithersWrong)

/-- 'hustingslaw5.SigmaSigns': WHATEVER THE INPUT: true; the input reads as it did. -/
def sigmaSignsSpec : ChangeSpec := { name := "sigmaSigns", fn := fun _ => fun
  | [d1, d2, d3, d4, d5, d6] => { results := [.lit (.bool true)], args := [d1, d2, d3, d4, d5, d6] }
  | _ => none }
def sigmaSignsRow : OpenClaim := { program := "ytdlnnkbigeiilaagreat", sum := "2d487d3175b21e3c5f5b31a9a658234bcbe79879feb039b110ae80f9cb3dcf19", func := "hustings/hustingslaw5.SigmaSigns", spec := "sigmaSigns", inPlace := ["math/bits.Add64", "math/bits.Sub64", "internal/abi.NoEscape", "internal/bytealg.MakeNoZero"], unfollowed := true, recurses := true, apart := false }
def SigmaSignsSaid : Prop := sigmaSignsRow.holds Tryz.pinned (OpenSpec.ofChange sigmaSignsSpec)

/-- ITS FALSE NEIGHBOUR: 'it returns false'. Refute it at one input. -/
def sigmaSignsWrong : ChangeSpec := { name := "sigmaSigns", fn := fun _ => fun
  | [d1, d2, d3, d4, d5, d6] => { results := [.lit (.bool false)], args := [d1, d2, d3, d4, d5, d6] }
  | _ => none }
def SigmaSignsWrongFalsely : Prop := sigmaSignsRow.holds Tryz.pinned (OpenSpec.ofChange sigmaSignsWrong)

/-- 'hustingslaw5.SigmaComplete': WHATEVER THE INPUT: true; the input reads as it did. -/
def sigmaCompleteSpec : ChangeSpec := { name := "sigmaComplete", fn := fun _ => fun
  | [d1, d2, d3, d4, d5] => { results := [.lit (.bool true)], args := [d1, d2, d3, d4, d5] }
  | _ => none }
def sigmaCompleteRow : OpenClaim := { program := "ytdlnnkbigeiilaagreat", sum := "2d487d3175b21e3c5f5b31a9a658234bcbe79879feb039b110ae80f9cb3dcf19", func := "hustings/hustingslaw5.SigmaComplete", spec := "sigmaComplete", inPlace := ["math/bits.Add64", "math/bits.Sub64", "internal/abi.NoEscape", "internal/bytealg.MakeNoZero"], unfollowed := true, recurses := true, apart := false }
def SigmaCompleteSaid : Prop := sigmaCompleteRow.holds Tryz.pinned (OpenSpec.ofChange sigmaCompleteSpec)

/-- ITS FALSE NEIGHBOUR: 'it returns false'. Refute it at one input. -/
def sigmaCompleteWrong : ChangeSpec := { name := "sigmaComplete", fn := fun _ => fun
  | [d1, d2, d3, d4, d5] => { results := [.lit (.bool false)], args := [d1, d2, d3, d4, d5] }
  | _ => none }
def SigmaCompleteWrongFalsely : Prop := sigmaCompleteRow.holds Tryz.pinned (OpenSpec.ofChange sigmaCompleteWrong)

/-- 'hustingslaw7.BoardStamps': WHATEVER THE INPUT: true; the input reads as it did. -/
def boardStampsSpec : ChangeSpec := { name := "boardStamps", fn := fun _ => fun
  | [d1, d2, d3, d4, d5, d6, d7, d8, d9] => { results := [.lit (.bool true)], args := [d1, d2, d3, d4, d5, d6, d7, d8, d9] }
  | _ => none }
def boardStampsRow : OpenClaim := { program := "ytdlnnkbigeiilaagreat", sum := "2d487d3175b21e3c5f5b31a9a658234bcbe79879feb039b110ae80f9cb3dcf19", func := "hustings/hustingslaw7.BoardStamps", spec := "boardStamps", inPlace := ["math/bits.Add64", "math/bits.Sub64", "internal/abi.NoEscape", "internal/bytealg.MakeNoZero"], unfollowed := true, recurses := true, apart := false }
def BoardStampsSaid : Prop := boardStampsRow.holds Tryz.pinned (OpenSpec.ofChange boardStampsSpec)

/-- ITS FALSE NEIGHBOUR: 'it returns false'. Refute it at one input. -/
def boardStampsWrong : ChangeSpec := { name := "boardStamps", fn := fun _ => fun
  | [d1, d2, d3, d4, d5, d6, d7, d8, d9] => { results := [.lit (.bool false)], args := [d1, d2, d3, d4, d5, d6, d7, d8, d9] }
  | _ => none }
def BoardStampsWrongFalsely : Prop := boardStampsRow.holds Tryz.pinned (OpenSpec.ofChange boardStampsWrong)

/- THE SECOND FORM. 'bulk': how many values and letters a reading holds, each counted each time it is reached (what is shared counts as often as it is met; a slice's spare places count too). A statement '..UptoSaid' is the law's where the arguments, and the package variables that the reading takes, are together of bulk at most 1048576: NARROWER than '..Said'. Prove '..Said' where nothing that the law and all that it calls make is longer than what came in: it says more and counts as full. Else prove '..UptoSaid'. A law counts once. -/
mutual
def uptoBulk {H : Type} : DataW H → Nat
  | .lit (.string bytes) => bytes.length + 1
  | .lit _ => 1
  | .nil => 1
  | .ptr d => uptoBulk d + 1
  | .slice elems spare => uptoBulkAll elems + uptoBulkAll spare + 1
  | .agg parts => uptoBulkAll parts + 1
  | .iface _ d => uptoBulk d + 1
  | .map entries => uptoBulkEntries entries + 1
  | .held _ => 1
def uptoBulkAll {H : Type} : List (DataW H) → Nat
  | [] => 0
  | d :: r => uptoBulk d + uptoBulkAll r
def uptoBulkEntries {H : Type} : List (Lit × DataW H) → Nat
  | [] => 0
  | x :: r => uptoBulkEntry x + uptoBulkEntries r
def uptoBulkEntry {H : Type} : Lit × DataW H → Nat
  | (.string bytes, d) => bytes.length + uptoBulk d + 1
  | (_, d) => uptoBulk d + 1
 end
def uptoSmall : (H : Type) → List (DataW H) → Bool := fun _ ds => decide (uptoBulkAll ds ≤ 1048576)
def OpenSpec.upto (s : _root_.Go.ChangeSpec) : _root_.Go.OpenSpec := { _root_.Go.OpenSpec.ofChange s with cond := some uptoSmall }

/-- 'hustingslaw5.SigmaVerifies', WHERE WHAT IT READS IS OF BULK AT MOST 1048576: true; the input reads as it did. -/
def sigmaVerifiesUptoRow : OpenClaim := { program := "ytdlnnkbigeiilaagreat", sum := "2d487d3175b21e3c5f5b31a9a658234bcbe79879feb039b110ae80f9cb3dcf19", func := "hustings/hustingslaw5.SigmaVerifies", spec := "sigmaVerifies", inPlace := ["math/bits.Add64", "math/bits.Sub64", "internal/abi.NoEscape", "internal/bytealg.MakeNoZero"], unfollowed := true, recurses := true, apart := false, narrowed := true }
def SigmaVerifiesUptoSaid : Prop := sigmaVerifiesUptoRow.holds Tryz.pinned (OpenSpec.upto sigmaVerifiesSpec)

/-- 'hustingslaw5.SigmaChecks', WHERE WHAT IT READS IS OF BULK AT MOST 1048576: true; the input reads as it did. -/
def sigmaChecksUptoRow : OpenClaim := { program := "ytdlnnkbigeiilaagreat", sum := "2d487d3175b21e3c5f5b31a9a658234bcbe79879feb039b110ae80f9cb3dcf19", func := "hustings/hustingslaw5.SigmaChecks", spec := "sigmaChecks", inPlace := ["math/bits.Add64", "math/bits.Sub64", "internal/abi.NoEscape", "internal/bytealg.MakeNoZero"], unfollowed := true, recurses := true, apart := false, narrowed := true }
def SigmaChecksUptoSaid : Prop := sigmaChecksUptoRow.holds Tryz.pinned (OpenSpec.upto sigmaChecksSpec)

/-- 'hustingslaw5.SigmaProves', WHERE WHAT IT READS IS OF BULK AT MOST 1048576: true; the input reads as it did. -/
def sigmaProvesUptoRow : OpenClaim := { program := "ytdlnnkbigeiilaagreat", sum := "2d487d3175b21e3c5f5b31a9a658234bcbe79879feb039b110ae80f9cb3dcf19", func := "hustings/hustingslaw5.SigmaProves", spec := "sigmaProves", inPlace := ["math/bits.Add64", "math/bits.Sub64", "internal/abi.NoEscape", "internal/bytealg.MakeNoZero"], unfollowed := true, recurses := true, apart := false, narrowed := true }
def SigmaProvesUptoSaid : Prop := sigmaProvesUptoRow.holds Tryz.pinned (OpenSpec.upto sigmaProvesSpec)

/-- 'hustingslaw5.SigmaEithers', WHERE WHAT IT READS IS OF BULK AT MOST 1048576: true; the input reads as it did. -/
def sigmaEithersUptoRow : OpenClaim := { program := "ytdlnnkbigeiilaagreat", sum := "2d487d3175b21e3c5f5b31a9a658234bcbe79879feb039b110ae80f9cb3dcf19", func := "hustings/hustingslaw5.SigmaEithers", spec := "sigmaEithers", inPlace := ["math/bits.Add64", "math/bits.Sub64", "internal/abi.NoEscape", "internal/bytealg.MakeNoZero"], unfollowed := true, recurses := true, apart := false, narrowed := true }
def SigmaEithersUptoSaid : Prop := sigmaEithersUptoRow.holds Tryz.pinned (OpenSpec.upto sigmaEithersSpec)

/-- 'hustingslaw5.SigmaSigns', WHERE WHAT IT READS IS OF BULK AT MOST 1048576: true; the input reads as it did. -/
def sigmaSignsUptoRow : OpenClaim := { program := "ytdlnnkbigeiilaagreat", sum := "2d487d3175b21e3c5f5b31a9a658234bcbe79879feb039b110ae80f9cb3dcf19", func := "hustings/hustingslaw5.SigmaSigns", spec := "sigmaSigns", inPlace := ["math/bits.Add64", "math/bits.Sub64", "internal/abi.NoEscape", "internal/bytealg.MakeNoZero"], unfollowed := true, recurses := true, apart := false, narrowed := true }
def SigmaSignsUptoSaid : Prop := sigmaSignsUptoRow.holds Tryz.pinned (OpenSpec.upto sigmaSignsSpec)

/-- 'hustingslaw5.SigmaComplete', WHERE WHAT IT READS IS OF BULK AT MOST 1048576: true; the input reads as it did. -/
def sigmaCompleteUptoRow : OpenClaim := { program := "ytdlnnkbigeiilaagreat", sum := "2d487d3175b21e3c5f5b31a9a658234bcbe79879feb039b110ae80f9cb3dcf19", func := "hustings/hustingslaw5.SigmaComplete", spec := "sigmaComplete", inPlace := ["math/bits.Add64", "math/bits.Sub64", "internal/abi.NoEscape", "internal/bytealg.MakeNoZero"], unfollowed := true, recurses := true, apart := false, narrowed := true }
def SigmaCompleteUptoSaid : Prop := sigmaCompleteUptoRow.holds Tryz.pinned (OpenSpec.upto sigmaCompleteSpec)

/-- 'hustingslaw7.BoardStamps', WHERE WHAT IT READS IS OF BULK AT MOST 1048576: true; the input reads as it did. -/
def boardStampsUptoRow : OpenClaim := { program := "ytdlnnkbigeiilaagreat", sum := "2d487d3175b21e3c5f5b31a9a658234bcbe79879feb039b110ae80f9cb3dcf19", func := "hustings/hustingslaw7.BoardStamps", spec := "boardStamps", inPlace := ["math/bits.Add64", "math/bits.Sub64", "internal/abi.NoEscape", "internal/bytealg.MakeNoZero"], unfollowed := true, recurses := true, apart := false, narrowed := true }
def BoardStampsUptoSaid : Prop := boardStampsUptoRow.holds Tryz.pinned (OpenSpec.upto boardStampsSpec)

end Rows
end Go.Proofs.YtdlnnkbigeiilaaGreat
