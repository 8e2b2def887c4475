/-
  No cell of these rows narrows 'for every input' (looked for: loops, veiled, ifaces, maps, wideKeys, modest, calm, conditions, laid).
  DERIVED. THE GIVEN ROWS OF THIS SEAT. 10 by the template 'for every input the law returns true; each argument reads behind the call as it read before'; 0 by the template 'total and deterministic' (their statements: YtgfkkjcnnecefaaTotals.lean).
  GIVEN WITH THE SEED: the statements are not yours to turn. If you find one false, say at which input.
  Laid BY PROGRAM, IN A SANDBOX (cutbox-rows.mjs): the forced cells as the released guide's own fill.sh prints them over the translation fe541307a3328e40… (all of the seat's roots in one cut). By AI agents, Wed Nov 11 2026. No macro, syntax, notation, axiom, sorry.
-/
import Derived.Test.YtgfkkjcnnecefaaChecked
import GoSem.Claim
import GoSem.ClaimJoined
import GoSem.ClaimMapViews
import Derived.JoinedTies
import Derived.KernelRfl
namespace Go.Proofs.Ytgfkkjcnnecefaa
/- THE CELL 'sum', in the pinned program and in every row, IS THE sha256 OF THE DUMP (.gsa) THAT YtgfkkjcnnecefaaProg.lean LOADS. Nothing in Lean hashes anything: it is a label: what it is worth is what the hold of that sum in a sandbox is worth. -/
noncomputable def Try.pinned : Pinned := { name := "ytgfkkjcnnecefaa", sum := "fe541307a3328e4045efb063b283d165d4ba3598441389fc10c1bca5d45bc8e2", checked := Try.checked }
namespace Rows
def none {H : Type} : Left H := { results := [], args := [] }

/-- 'pocketpresslaw.NumsTells': WHATEVER THE INPUT: true; the input reads as it did. -/
def numsTellsSpec : ChangeSpec := { name := "numsTells", fn := fun _ => fun
  | [d1, d2, d3] => { results := [.lit (.bool true)], args := [d1, d2, d3] }
  | _ => none }
def numsTellsRow : OpenClaim := { program := "ytgfkkjcnnecefaa", sum := "fe541307a3328e4045efb063b283d165d4ba3598441389fc10c1bca5d45bc8e2", func := "pocketpress/pocketpresslaw.NumsTells", spec := "numsTells", recurses := true, plainKeys := false, apart := false }
def NumsTellsSaid : Prop := numsTellsRow.holds Try.pinned (OpenSpec.ofChange numsTellsSpec)

/-- ITS FALSE NEIGHBOUR: 'it returns false'. Refute it at one input. -/
def numsTellsWrong : ChangeSpec := { name := "numsTells", fn := fun _ => fun
  | [d1, d2, d3] => { results := [.lit (.bool false)], args := [d1, d2, d3] }
  | _ => none }
def NumsTellsWrongFalsely : Prop := numsTellsRow.holds Try.pinned (OpenSpec.ofChange numsTellsWrong)

/-- 'pocketpresslaw.NumsBack': WHATEVER THE INPUT: true; the input reads as it did. -/
def numsBackSpec : ChangeSpec := { name := "numsBack", fn := fun _ => fun
  | [d1, d2, d3, d4] => { results := [.lit (.bool true)], args := [d1, d2, d3, d4] }
  | _ => none }
def numsBackRow : OpenClaim := { program := "ytgfkkjcnnecefaa", sum := "fe541307a3328e4045efb063b283d165d4ba3598441389fc10c1bca5d45bc8e2", func := "pocketpress/pocketpresslaw.NumsBack", spec := "numsBack", plainKeys := false, apart := false }
def NumsBackSaid : Prop := numsBackRow.holds Try.pinned (OpenSpec.ofChange numsBackSpec)

/-- ITS FALSE NEIGHBOUR: 'it returns false'. Refute it at one input. -/
def numsBackWrong : ChangeSpec := { name := "numsBack", fn := fun _ => fun
  | [d1, d2, d3, d4] => { results := [.lit (.bool false)], args := [d1, d2, d3, d4] }
  | _ => none }
def NumsBackWrongFalsely : Prop := numsBackRow.holds Try.pinned (OpenSpec.ofChange numsBackWrong)

/-- 'pocketpresslaw.ToksPlays': WHATEVER THE INPUT: true; the input reads as it did. -/
def toksPlaysSpec : ChangeSpec := { name := "toksPlays", fn := fun _ => fun
  | [d1, d2] => { results := [.lit (.bool true)], args := [d1, d2] }
  | _ => none }
def toksPlaysRow : OpenClaim := { program := "ytgfkkjcnnecefaa", sum := "fe541307a3328e4045efb063b283d165d4ba3598441389fc10c1bca5d45bc8e2", func := "pocketpress/pocketpresslaw.ToksPlays", spec := "toksPlays", inPlace := ["internal/abi.NoEscape"], unfollowed := true, recurses := true, plainKeys := false, apart := false }
def ToksPlaysSaid : Prop := toksPlaysRow.holds Try.pinned (OpenSpec.ofChange toksPlaysSpec)

/-- ITS FALSE NEIGHBOUR: 'it returns false'. Refute it at one input. -/
def toksPlaysWrong : ChangeSpec := { name := "toksPlays", fn := fun _ => fun
  | [d1, d2] => { results := [.lit (.bool false)], args := [d1, d2] }
  | _ => none }
def ToksPlaysWrongFalsely : Prop := toksPlaysRow.holds Try.pinned (OpenSpec.ofChange toksPlaysWrong)

/-- 'pocketpresslaw.ToksParses': WHATEVER THE INPUT: true; the input reads as it did. -/
def toksParsesSpec : ChangeSpec := { name := "toksParses", fn := fun _ => fun
  | [d1, d2] => { results := [.lit (.bool true)], args := [d1, d2] }
  | _ => none }
def toksParsesRow : OpenClaim := { program := "ytgfkkjcnnecefaa", sum := "fe541307a3328e4045efb063b283d165d4ba3598441389fc10c1bca5d45bc8e2", func := "pocketpress/pocketpresslaw.ToksParses", spec := "toksParses", inPlace := ["internal/abi.NoEscape"], unfollowed := true, recurses := true, plainKeys := false, apart := false }
def ToksParsesSaid : Prop := toksParsesRow.holds Try.pinned (OpenSpec.ofChange toksParsesSpec)

/-- ITS FALSE NEIGHBOUR: 'it returns false'. Refute it at one input. -/
def toksParsesWrong : ChangeSpec := { name := "toksParses", fn := fun _ => fun
  | [d1, d2] => { results := [.lit (.bool false)], args := [d1, d2] }
  | _ => none }
def ToksParsesWrongFalsely : Prop := toksParsesRow.holds Try.pinned (OpenSpec.ofChange toksParsesWrong)

/-- 'pocketpresslaw.ToksWrites': WHATEVER THE INPUT: true; the input reads as it did. -/
def toksWritesSpec : ChangeSpec := { name := "toksWrites", fn := fun _ => fun
  | [d1, d2, d3] => { results := [.lit (.bool true)], args := [d1, d2, d3] }
  | _ => none }
def toksWritesRow : OpenClaim := { program := "ytgfkkjcnnecefaa", sum := "fe541307a3328e4045efb063b283d165d4ba3598441389fc10c1bca5d45bc8e2", func := "pocketpress/pocketpresslaw.ToksWrites", spec := "toksWrites", inPlace := ["internal/abi.NoEscape"], unfollowed := true, recurses := true, plainKeys := false, apart := false }
def ToksWritesSaid : Prop := toksWritesRow.holds Try.pinned (OpenSpec.ofChange toksWritesSpec)

/-- ITS FALSE NEIGHBOUR: 'it returns false'. Refute it at one input. -/
def toksWritesWrong : ChangeSpec := { name := "toksWrites", fn := fun _ => fun
  | [d1, d2, d3] => { results := [.lit (.bool false)], args := [d1, d2, d3] }
  | _ => none }
def ToksWritesWrongFalsely : Prop := toksWritesRow.holds Try.pinned (OpenSpec.ofChange toksWritesWrong)

/-- 'pocketpresslaw.ToksBack': WHATEVER THE INPUT: true; the input reads as it did. -/
def toksBackSpec : ChangeSpec := { name := "toksBack", fn := fun _ => fun
  | [d1, d2, d3, d4] => { results := [.lit (.bool true)], args := [d1, d2, d3, d4] }
  | _ => none }
def toksBackRow : OpenClaim := { program := "ytgfkkjcnnecefaa", sum := "fe541307a3328e4045efb063b283d165d4ba3598441389fc10c1bca5d45bc8e2", func := "pocketpress/pocketpresslaw.ToksBack", spec := "toksBack", inPlace := ["internal/abi.NoEscape"], unfollowed := true, recurses := true, plainKeys := false, apart := false }
def ToksBackSaid : Prop := toksBackRow.holds Try.pinned (OpenSpec.ofChange toksBackSpec)

/-- ITS FALSE NEIGHBOUR: 'it returns false'. Refute it at one input. -/
def toksBackWrong : ChangeSpec := { name := "toksBack", fn := fun _ => fun
  | [d1, d2, d3, d4] => { results := [.lit (.bool false)], args := [d1, d2, d3, d4] }
  | _ => none }
def ToksBackWrongFalsely : Prop := toksBackRow.holds Try.pinned (OpenSpec.ofChange toksBackWrong)

/-- 'pocketpresslaw.TrainTells': WHATEVER THE INPUT: true; the input reads as it did. -/
def trainTellsSpec : ChangeSpec := { name := "trainTells", fn := fun _ => fun
  | [d1, d2, d3] => { results := [.lit (.bool true)], args := [d1, d2, d3] }
  | _ => none }
def trainTellsRow : OpenClaim := { program := "ytgfkkjcnnecefaa", sum := "fe541307a3328e4045efb063b283d165d4ba3598441389fc10c1bca5d45bc8e2", func := "pocketpress/pocketpresslaw.TrainTells", spec := "trainTells", inPlace := ["internal/bytealg.IndexByteString", "internal/bytealg.IndexString"], unfollowed := true, recurses := true, named := ["internal/bytealg.MaxLen"], plainKeys := false, apart := false }
def TrainTellsSaid : Prop := trainTellsRow.holds Try.pinned (OpenSpec.ofChange trainTellsSpec)

/-- ITS FALSE NEIGHBOUR: 'it returns false'. Refute it at one input. -/
def trainTellsWrong : ChangeSpec := { name := "trainTells", fn := fun _ => fun
  | [d1, d2, d3] => { results := [.lit (.bool false)], args := [d1, d2, d3] }
  | _ => none }
def TrainTellsWrongFalsely : Prop := trainTellsRow.holds Try.pinned (OpenSpec.ofChange trainTellsWrong)

/-- 'pocketpresslaw.TrainTrue': WHATEVER THE INPUT: true; the input reads as it did. -/
def trainTrueSpec : ChangeSpec := { name := "trainTrue", fn := fun _ => fun
  | [d1, d2, d3, d4] => { results := [.lit (.bool true)], args := [d1, d2, d3, d4] }
  | _ => none }
def trainTrueRow : OpenClaim := { program := "ytgfkkjcnnecefaa", sum := "fe541307a3328e4045efb063b283d165d4ba3598441389fc10c1bca5d45bc8e2", func := "pocketpress/pocketpresslaw.TrainTrue", spec := "trainTrue", inPlace := ["internal/bytealg.IndexByteString", "internal/bytealg.IndexString"], unfollowed := true, recurses := true, named := ["internal/bytealg.MaxLen"], plainKeys := false, apart := false }
def TrainTrueSaid : Prop := trainTrueRow.holds Try.pinned (OpenSpec.ofChange trainTrueSpec)

/-- ITS FALSE NEIGHBOUR: 'it returns false'. Refute it at one input. -/
def trainTrueWrong : ChangeSpec := { name := "trainTrue", fn := fun _ => fun
  | [d1, d2, d3, d4] => { results := [.lit (.bool false)], args := [d1, d2, d3, d4] }
  | _ => none }
def TrainTrueWrongFalsely : Prop := trainTrueRow.holds Try.pinned (OpenSpec.ofChange trainTrueWrong)

/-- 'pocketpresslaw.CodeBuilds': WHATEVER THE INPUT: true; the input reads as it did. -/
def codeBuildsSpec : ChangeSpec := { name := "codeBuilds", fn := fun _ => fun
  | [d1, d2] => { results := [.lit (.bool true)], args := [d1, d2] }
  | _ => none }
def codeBuildsRow : OpenClaim := { program := "ytgfkkjcnnecefaa", sum := "fe541307a3328e4045efb063b283d165d4ba3598441389fc10c1bca5d45bc8e2", func := "pocketpress/pocketpresslaw.CodeBuilds", spec := "codeBuilds", unfollowed := true, recurses := true, plainKeys := false, apart := false }
def CodeBuildsSaid : Prop := codeBuildsRow.holds Try.pinned (OpenSpec.ofChange codeBuildsSpec)

/-- ITS FALSE NEIGHBOUR: 'it returns false'. Refute it at one input. -/
def codeBuildsWrong : ChangeSpec := { name := "codeBuilds", fn := fun _ => fun
  | [d1, d2] => { results := [.lit (.bool false)], args := [d1, d2] }
  | _ => none }
def CodeBuildsWrongFalsely : Prop := codeBuildsRow.holds Try.pinned (OpenSpec.ofChange codeBuildsWrong)

/-- 'pocketpresslaw.CodeWrites': WHATEVER THE INPUT: true; the input reads as it did. -/
def codeWritesSpec : ChangeSpec := { name := "codeWrites", fn := fun _ => fun
  | [d1, d2, d3, d4] => { results := [.lit (.bool true)], args := [d1, d2, d3, d4] }
  | _ => none }
def codeWritesRow : OpenClaim := { program := "ytgfkkjcnnecefaa", sum := "fe541307a3328e4045efb063b283d165d4ba3598441389fc10c1bca5d45bc8e2", func := "pocketpress/pocketpresslaw.CodeWrites", spec := "codeWrites", unfollowed := true, recurses := true, plainKeys := false, apart := false }
def CodeWritesSaid : Prop := codeWritesRow.holds Try.pinned (OpenSpec.ofChange codeWritesSpec)

/-- ITS FALSE NEIGHBOUR: 'it returns false'. Refute it at one input. -/
def codeWritesWrong : ChangeSpec := { name := "codeWrites", fn := fun _ => fun
  | [d1, d2, d3, d4] => { results := [.lit (.bool false)], args := [d1, d2, d3, d4] }
  | _ => none }
def CodeWritesWrongFalsely : Prop := codeWritesRow.holds Try.pinned (OpenSpec.ofChange codeWritesWrong)

/- THE SECOND FORM. 'bulk': how many values and letters a reading holds, each counted each time it is reached (what is shared counts as often as it is met; a slice's spare places count too). A statement '..UptoSaid' is the law's where the arguments, and the package variables that the reading takes, are together of bulk at most 1048576: NARROWER than '..Said'. Prove '..Said' where nothing that the law and all that it calls make is longer than what came in: it says more and counts as full. Else prove '..UptoSaid'. A law counts once. -/
mutual
def uptoBulk {H : Type} : DataW H → Nat
  | .lit (.string bytes) => bytes.length + 1
  | .lit _ => 1
  | .nil => 1
  | .ptr d => uptoBulk d + 1
  | .slice elems spare => uptoBulkAll elems + uptoBulkAll spare + 1
  | .agg parts => uptoBulkAll parts + 1
  | .iface _ d => uptoBulk d + 1
  | .map entries => uptoBulkEntries entries + 1
  | .held _ => 1
def uptoBulkAll {H : Type} : List (DataW H) → Nat
  | [] => 0
  | d :: r => uptoBulk d + uptoBulkAll r
def uptoBulkEntries {H : Type} : List (Lit × DataW H) → Nat
  | [] => 0
  | x :: r => uptoBulkEntry x + uptoBulkEntries r
def uptoBulkEntry {H : Type} : Lit × DataW H → Nat
  | (.string bytes, d) => bytes.length + uptoBulk d + 1
  | (_, d) => uptoBulk d + 1
 end
def uptoSmall : (H : Type) → List (DataW H) → Bool := fun _ ds => decide (uptoBulkAll ds ≤ 1048576)
def OpenSpec.upto (s : _root_.Go.ChangeSpec) : _root_.Go.OpenSpec := { _root_.Go.OpenSpec.ofChange s with cond := some uptoSmall }

/-- 'pocketpresslaw.NumsTells', WHERE WHAT IT READS IS OF BULK AT MOST 1048576: true; the input reads as it did. -/
def numsTellsUptoRow : OpenClaim := { program := "ytgfkkjcnnecefaa", sum := "fe541307a3328e4045efb063b283d165d4ba3598441389fc10c1bca5d45bc8e2", func := "pocketpress/pocketpresslaw.NumsTells", spec := "numsTells", recurses := true, plainKeys := false, apart := false, narrowed := true }
def NumsTellsUptoSaid : Prop := numsTellsUptoRow.holds Try.pinned (OpenSpec.upto numsTellsSpec)

/-- 'pocketpresslaw.NumsBack', WHERE WHAT IT READS IS OF BULK AT MOST 1048576: true; the input reads as it did. -/
def numsBackUptoRow : OpenClaim := { program := "ytgfkkjcnnecefaa", sum := "fe541307a3328e4045efb063b283d165d4ba3598441389fc10c1bca5d45bc8e2", func := "pocketpress/pocketpresslaw.NumsBack", spec := "numsBack", plainKeys := false, apart := false, narrowed := true }
def NumsBackUptoSaid : Prop := numsBackUptoRow.holds Try.pinned (OpenSpec.upto numsBackSpec)

/-- 'pocketpresslaw.ToksPlays', WHERE WHAT IT READS IS OF BULK AT MOST 1048576: true; the input reads as it did. -/
def toksPlaysUptoRow : OpenClaim := { program := "ytgfkkjcnnecefaa", sum := "fe541307a3328e4045efb063b283d165d4ba3598441389fc10c1bca5d45bc8e2", func := "pocketpress/pocketpresslaw.ToksPlays", spec := "toksPlays", inPlace := ["internal/abi.NoEscape"], unfollowed := true, recurses := true, plainKeys := false, apart := false, narrowed := true }
def ToksPlaysUptoSaid : Prop := toksPlaysUptoRow.holds Try.pinned (OpenSpec.upto toksPlaysSpec)

/-- 'pocketpresslaw.ToksParses', WHERE WHAT IT READS IS OF BULK AT MOST 1048576: true; the input reads as it did. -/
def toksParsesUptoRow : OpenClaim := { program := "ytgfkkjcnnecefaa", sum := "fe541307a3328e4045efb063b283d165d4ba3598441389fc10c1bca5d45bc8e2", func := "pocketpress/pocketpresslaw.ToksParses", spec := "toksParses", inPlace := ["internal/abi.NoEscape"], unfollowed := true, recurses := true, plainKeys := false, apart := false, narrowed := true }
def ToksParsesUptoSaid : Prop := toksParsesUptoRow.holds Try.pinned (OpenSpec.upto toksParsesSpec)

/-- 'pocketpresslaw.ToksWrites', WHERE WHAT IT READS IS OF BULK AT MOST 1048576: true; the input reads as it did. -/
def toksWritesUptoRow : OpenClaim := { program := "ytgfkkjcnnecefaa", sum := "fe541307a3328e4045efb063b283d165d4ba3598441389fc10c1bca5d45bc8e2", func := "pocketpress/pocketpresslaw.ToksWrites", spec := "toksWrites", inPlace := ["internal/abi.NoEscape"], unfollowed := true, recurses := true, plainKeys := false, apart := false, narrowed := true }
def ToksWritesUptoSaid : Prop := toksWritesUptoRow.holds Try.pinned (OpenSpec.upto toksWritesSpec)

/-- 'pocketpresslaw.ToksBack', WHERE WHAT IT READS IS OF BULK AT MOST 1048576: true; the input reads as it did. -/
def toksBackUptoRow : OpenClaim := { program := "ytgfkkjcnnecefaa", sum := "fe541307a3328e4045efb063b283d165d4ba3598441389fc10c1bca5d45bc8e2", func := "pocketpress/pocketpresslaw.ToksBack", spec := "toksBack", inPlace := ["internal/abi.NoEscape"], unfollowed := true, recurses := true, plainKeys := false, apart := false, narrowed := true }
def ToksBackUptoSaid : Prop := toksBackUptoRow.holds Try.pinned (OpenSpec.upto toksBackSpec)

/-- 'pocketpresslaw.TrainTells', WHERE WHAT IT READS IS OF BULK AT MOST 1048576: true; the input reads as it did. -/
def trainTellsUptoRow : OpenClaim := { program := "ytgfkkjcnnecefaa", sum := "fe541307a3328e4045efb063b283d165d4ba3598441389fc10c1bca5d45bc8e2", func := "pocketpress/pocketpresslaw.TrainTells", spec := "trainTells", inPlace := ["internal/bytealg.IndexByteString", "internal/bytealg.IndexString"], unfollowed := true, recurses := true, named := ["internal/bytealg.MaxLen"], plainKeys := false, apart := false, narrowed := true }
def TrainTellsUptoSaid : Prop := trainTellsUptoRow.holds Try.pinned (OpenSpec.upto trainTellsSpec)

/-- 'pocketpresslaw.TrainTrue', WHERE WHAT IT READS IS OF BULK AT MOST 1048576: true; the input reads as it did. -/
def trainTrueUptoRow : OpenClaim := { program := "ytgfkkjcnnecefaa", sum := "fe541307a3328e4045efb063b283d165d4ba3598441389fc10c1bca5d45bc8e2", func := "pocketpress/pocketpresslaw.TrainTrue", spec := "trainTrue", inPlace := ["internal/bytealg.IndexByteString", "internal/bytealg.IndexString"], unfollowed := true, recurses := true, named := ["internal/bytealg.MaxLen"], plainKeys := false, apart := false, narrowed := true }
def TrainTrueUptoSaid : Prop := trainTrueUptoRow.holds Try.pinned (OpenSpec.upto trainTrueSpec)

/-- 'pocketpresslaw.CodeBuilds', WHERE WHAT IT READS IS OF BULK AT MOST 1048576: true; the input reads as it did. -/
def codeBuildsUptoRow : OpenClaim := { program := "ytgfkkjcnnecefaa", sum := "fe541307a3328e4045efb063b283d165d4ba3598441389fc10c1bca5d45bc8e2", func := "pocketpress/pocketpresslaw.CodeBuilds", spec := "codeBuilds", unfollowed := true, recurses := true, plainKeys := false, apart := false, narrowed := true }
def CodeBuildsUptoSaid : Prop := codeBuildsUptoRow.holds Try.pinned (OpenSpec.upto codeBuildsSpec)

/-- 'pocketpresslaw.CodeWrites', WHERE WHAT IT READS IS OF BULK AT MOST 1048576: true; the input reads as it did. -/
def codeWritesUptoRow : OpenClaim := { program := "ytgfkkjcnnecefaa", sum := "fe541307a3328e4045efb063b283d165d4ba3598441389fc10c1bca5d45bc8e2", func := "pocketpress/pocketpresslaw.CodeWrites", spec := "codeWrites", unfollowed := true, recurses := true, plainKeys := false, apart := false, narrowed := true }
def CodeWritesUptoSaid : Prop := codeWritesUptoRow.holds Try.pinned (OpenSpec.upto codeWritesSpec)

end Rows
end Go.Proofs.Ytgfkkjcnnecefaa
