/-
  No cell of these rows narrows 'for every input' (looked for: loops, veiled, ifaces, maps, wideKeys, modest, calm, conditions, laid).
  DERIVED. THE GIVEN ROWS OF THIS SEAT. 12 by the template 'for every input the law returns true; each argument reads behind the call as it read before'; 0 by the template 'total and deterministic' (their statements: YtjpgoeimclipjaaGreatTotals.lean).
  GIVEN WITH THE SEED: the statements are not yours to turn. If you find one false, say at which input.
  Laid BY PROGRAM, IN A SANDBOX (cutbox-rows.mjs): the forced cells as the released guide's own fill.sh prints them over the translation 2385d1d45957c504… (all of the seat's roots in one cut). By AI agents, Wed Nov 11 2026. No macro, syntax, notation, axiom, sorry.
-/
import Derived.Test.YtjpgoeimclipjaaGreatChecked
import GoSem.Claim
import GoSem.ClaimJoined
import GoSem.ClaimMapViews
import Derived.JoinedTies
import Derived.KernelRfl
namespace Go.Proofs.YtjpgoeimclipjaaGreat
/- THE CELL 'sum', in the pinned program and in every row, IS THE sha256 OF THE DUMP (.gsa) THAT YtjpgoeimclipjaaGreatProg.lean LOADS. Nothing in Lean hashes anything: it is a label: what it is worth is what the hold of that sum in a sandbox is worth. -/
noncomputable def Tryz.pinned : Pinned := { name := "ytjpgoeimclipjaagreat", sum := "2385d1d45957c504deff556567fc84471b4c973c60b0a4c7a2018f16f810f98a", checked := Tryz.checked }
namespace Rows
def none {H : Type} : Left H := { results := [], args := [] }

/-- 'pocketpresslaw.LogKept': WHATEVER THE INPUT: true; the input reads as it did. -/
def logKeptSpec : ChangeSpec := { name := "logKept", fn := fun _ => fun
  | [d1, d2] => { results := [.lit (.bool true)], args := [d1, d2] }
  | _ => none }
def logKeptRow : OpenClaim := { program := "ytjpgoeimclipjaagreat", sum := "2385d1d45957c504deff556567fc84471b4c973c60b0a4c7a2018f16f810f98a", func := "pocketpress/pocketpresslaw.LogKept", spec := "logKept", inPlace := ["internal/abi.NoEscape", "slices.overlaps[pocketpress/api.File]", "internal/bytealg.IndexByteString", "internal/bytealg.IndexString"], unfollowed := true, recurses := true, named := ["internal/bytealg.MaxLen"], plainKeys := false, apart := false }
def LogKeptSaid : Prop := logKeptRow.holds Tryz.pinned (OpenSpec.ofChange logKeptSpec)

/-- ITS FALSE NEIGHBOUR: 'it returns false'. Refute it at one input. -/
def logKeptWrong : ChangeSpec := { name := "logKept", fn := fun _ => fun
  | [d1, d2] => { results := [.lit (.bool false)], args := [d1, d2] }
  | _ => none }
def LogKeptWrongFalsely : Prop := logKeptRow.holds Tryz.pinned (OpenSpec.ofChange logKeptWrong)

/-- 'pocketpresslaw.ImageSaves': WHATEVER THE INPUT: true; the input reads as it did. -/
def imageSavesSpec : ChangeSpec := { name := "imageSaves", fn := fun _ => fun
  | [d1, d2] => { results := [.lit (.bool true)], args := [d1, d2] }
  | _ => none }
def imageSavesRow : OpenClaim := { program := "ytjpgoeimclipjaagreat", sum := "2385d1d45957c504deff556567fc84471b4c973c60b0a4c7a2018f16f810f98a", func := "pocketpress/pocketpresslaw.ImageSaves", spec := "imageSaves", inPlace := ["internal/abi.NoEscape", "slices.overlaps[pocketpress/api.File]", "internal/bytealg.IndexByteString", "internal/bytealg.IndexString"], unfollowed := true, recurses := true, named := ["internal/bytealg.MaxLen"], plainKeys := false, apart := false }
def ImageSavesSaid : Prop := imageSavesRow.holds Tryz.pinned (OpenSpec.ofChange imageSavesSpec)

/-- ITS FALSE NEIGHBOUR: 'it returns false'. Refute it at one input. -/
def imageSavesWrong : ChangeSpec := { name := "imageSaves", fn := fun _ => fun
  | [d1, d2] => { results := [.lit (.bool false)], args := [d1, d2] }
  | _ => none }
def ImageSavesWrongFalsely : Prop := imageSavesRow.holds Tryz.pinned (OpenSpec.ofChange imageSavesWrong)

/-- 'pocketpresslaw.ImageBack': WHATEVER THE INPUT: true; the input reads as it did. -/
def imageBackSpec : ChangeSpec := { name := "imageBack", fn := fun _ => fun
  | [d1, d2] => { results := [.lit (.bool true)], args := [d1, d2] }
  | _ => none }
def imageBackRow : OpenClaim := { program := "ytjpgoeimclipjaagreat", sum := "2385d1d45957c504deff556567fc84471b4c973c60b0a4c7a2018f16f810f98a", func := "pocketpress/pocketpresslaw.ImageBack", spec := "imageBack", inPlace := ["internal/abi.NoEscape", "slices.overlaps[pocketpress/api.File]", "internal/bytealg.IndexByteString", "internal/bytealg.IndexString"], unfollowed := true, recurses := true, named := ["internal/bytealg.MaxLen"], plainKeys := false, apart := false }
def ImageBackSaid : Prop := imageBackRow.holds Tryz.pinned (OpenSpec.ofChange imageBackSpec)

/-- ITS FALSE NEIGHBOUR: 'it returns false'. Refute it at one input. -/
def imageBackWrong : ChangeSpec := { name := "imageBack", fn := fun _ => fun
  | [d1, d2] => { results := [.lit (.bool false)], args := [d1, d2] }
  | _ => none }
def ImageBackWrongFalsely : Prop := imageBackRow.holds Tryz.pinned (OpenSpec.ofChange imageBackWrong)

/-- 'pocketpresslaw.ArchPuts': WHATEVER THE INPUT: true; the input reads as it did. -/
def archPutsSpec : ChangeSpec := { name := "archPuts", fn := fun _ => fun
  | [d1, d2, d3, d4] => { results := [.lit (.bool true)], args := [d1, d2, d3, d4] }
  | _ => none }
def archPutsRow : OpenClaim := { program := "ytjpgoeimclipjaagreat", sum := "2385d1d45957c504deff556567fc84471b4c973c60b0a4c7a2018f16f810f98a", func := "pocketpress/pocketpresslaw.ArchPuts", spec := "archPuts", inPlace := ["internal/abi.NoEscape", "slices.overlaps[pocketpress/api.File]", "internal/bytealg.IndexByteString", "internal/bytealg.IndexString", "internal/bytealg.MakeNoZero"], unfollowed := true, recurses := true, named := ["internal/bytealg.MaxLen"], plainKeys := false, apart := false }
def ArchPutsSaid : Prop := archPutsRow.holds Tryz.pinned (OpenSpec.ofChange archPutsSpec)

/-- ITS FALSE NEIGHBOUR: 'it returns false'. Refute it at one input. -/
def archPutsWrong : ChangeSpec := { name := "archPuts", fn := fun _ => fun
  | [d1, d2, d3, d4] => { results := [.lit (.bool false)], args := [d1, d2, d3, d4] }
  | _ => none }
def ArchPutsWrongFalsely : Prop := archPutsRow.holds Tryz.pinned (OpenSpec.ofChange archPutsWrong)

/-- 'pocketpresslaw.ArchGets': WHATEVER THE INPUT: true; the input reads as it did. -/
def archGetsSpec : ChangeSpec := { name := "archGets", fn := fun _ => fun
  | [d1, d2, d3, d4] => { results := [.lit (.bool true)], args := [d1, d2, d3, d4] }
  | _ => none }
def archGetsRow : OpenClaim := { program := "ytjpgoeimclipjaagreat", sum := "2385d1d45957c504deff556567fc84471b4c973c60b0a4c7a2018f16f810f98a", func := "pocketpress/pocketpresslaw.ArchGets", spec := "archGets", inPlace := ["internal/abi.NoEscape", "slices.overlaps[pocketpress/api.File]", "internal/bytealg.IndexByteString", "internal/bytealg.IndexString", "internal/bytealg.MakeNoZero"], unfollowed := true, recurses := true, named := ["internal/bytealg.MaxLen"], plainKeys := false, apart := false }
def ArchGetsSaid : Prop := archGetsRow.holds Tryz.pinned (OpenSpec.ofChange archGetsSpec)

/-- ITS FALSE NEIGHBOUR: 'it returns false'. Refute it at one input. -/
def archGetsWrong : ChangeSpec := { name := "archGets", fn := fun _ => fun
  | [d1, d2, d3, d4] => { results := [.lit (.bool false)], args := [d1, d2, d3, d4] }
  | _ => none }
def ArchGetsWrongFalsely : Prop := archGetsRow.holds Tryz.pinned (OpenSpec.ofChange archGetsWrong)

/-- 'pocketpresslaw.ArchTrains': WHATEVER THE INPUT: true; the input reads as it did. -/
def archTrainsSpec : ChangeSpec := { name := "archTrains", fn := fun _ => fun
  | [d1, d2] => { results := [.lit (.bool true)], args := [d1, d2] }
  | _ => none }
def archTrainsRow : OpenClaim := { program := "ytjpgoeimclipjaagreat", sum := "2385d1d45957c504deff556567fc84471b4c973c60b0a4c7a2018f16f810f98a", func := "pocketpress/pocketpresslaw.ArchTrains", spec := "archTrains", inPlace := ["internal/bytealg.IndexByteString", "internal/bytealg.IndexString", "internal/abi.NoEscape", "internal/bytealg.MakeNoZero", "slices.overlaps[pocketpress/api.File]"], unfollowed := true, recurses := true, named := ["internal/bytealg.MaxLen"], plainKeys := false, apart := false }
def ArchTrainsSaid : Prop := archTrainsRow.holds Tryz.pinned (OpenSpec.ofChange archTrainsSpec)

/-- ITS FALSE NEIGHBOUR: 'it returns false'. Refute it at one input. -/
def archTrainsWrong : ChangeSpec := { name := "archTrains", fn := fun _ => fun
  | [d1, d2] => { results := [.lit (.bool false)], args := [d1, d2] }
  | _ => none }
def ArchTrainsWrongFalsely : Prop := archTrainsRow.holds Tryz.pinned (OpenSpec.ofChange archTrainsWrong)

/-- 'pocketpresslaw.ArchTrue': WHATEVER THE INPUT: true; the input reads as it did. -/
def archTrueSpec : ChangeSpec := { name := "archTrue", fn := fun _ => fun
  | [d1, d2, d3, d4, d5, d6, d7] => { results := [.lit (.bool true)], args := [d1, d2, d3, d4, d5, d6, d7] }
  | _ => none }
def archTrueRow : OpenClaim := { program := "ytjpgoeimclipjaagreat", sum := "2385d1d45957c504deff556567fc84471b4c973c60b0a4c7a2018f16f810f98a", func := "pocketpress/pocketpresslaw.ArchTrue", spec := "archTrue", inPlace := ["internal/abi.NoEscape", "slices.overlaps[pocketpress/api.File]", "internal/bytealg.IndexByteString", "internal/bytealg.IndexString", "internal/bytealg.MakeNoZero"], unfollowed := true, recurses := true, named := ["internal/bytealg.MaxLen"], plainKeys := false, apart := false }
def ArchTrueSaid : Prop := archTrueRow.holds Tryz.pinned (OpenSpec.ofChange archTrueSpec)

/-- ITS FALSE NEIGHBOUR: 'it returns false'. Refute it at one input. -/
def archTrueWrong : ChangeSpec := { name := "archTrue", fn := fun _ => fun
  | [d1, d2, d3, d4, d5, d6, d7] => { results := [.lit (.bool false)], args := [d1, d2, d3, d4, d5, d6, d7] }
  | _ => none }
def ArchTrueWrongFalsely : Prop := archTrueRow.holds Tryz.pinned (OpenSpec.ofChange archTrueWrong)

/-- 'pocketpresslaw.ArchStays': WHATEVER THE INPUT: true; the input reads as it did. -/
def archStaysSpec : ChangeSpec := { name := "archStays", fn := fun _ => fun
  | [d1, d2, d3] => { results := [.lit (.bool true)], args := [d1, d2, d3] }
  | _ => none }
def archStaysRow : OpenClaim := { program := "ytjpgoeimclipjaagreat", sum := "2385d1d45957c504deff556567fc84471b4c973c60b0a4c7a2018f16f810f98a", func := "pocketpress/pocketpresslaw.ArchStays", spec := "archStays", inPlace := ["internal/bytealg.IndexByteString", "internal/bytealg.IndexString", "internal/abi.NoEscape", "slices.overlaps[pocketpress/api.File]", "internal/bytealg.MakeNoZero"], unfollowed := true, recurses := true, named := ["internal/bytealg.MaxLen"], plainKeys := false, apart := false }
def ArchStaysSaid : Prop := archStaysRow.holds Tryz.pinned (OpenSpec.ofChange archStaysSpec)

/-- ITS FALSE NEIGHBOUR: 'it returns false'. Refute it at one input. -/
def archStaysWrong : ChangeSpec := { name := "archStays", fn := fun _ => fun
  | [d1, d2, d3] => { results := [.lit (.bool false)], args := [d1, d2, d3] }
  | _ => none }
def ArchStaysWrongFalsely : Prop := archStaysRow.holds Tryz.pinned (OpenSpec.ofChange archStaysWrong)

/-- 'pocketpresslaw.RestArchives': WHATEVER THE INPUT: true; the input reads as it did. -/
def restArchivesSpec : ChangeSpec := { name := "restArchives", fn := fun _ => fun
  | [d1, d2, d3, d4] => { results := [.lit (.bool true)], args := [d1, d2, d3, d4] }
  | _ => none }
def restArchivesRow : OpenClaim := { program := "ytjpgoeimclipjaagreat", sum := "2385d1d45957c504deff556567fc84471b4c973c60b0a4c7a2018f16f810f98a", func := "pocketpress/pocketpresslaw.RestArchives", spec := "restArchives", inPlace := ["internal/abi.NoEscape", "slices.overlaps[pocketpress/api.File]", "internal/bytealg.IndexByteString", "internal/bytealg.IndexString", "internal/bytealg.MakeNoZero"], unfollowed := true, recurses := true, named := ["internal/bytealg.MaxLen"], plainKeys := false, apart := false }
def RestArchivesSaid : Prop := restArchivesRow.holds Tryz.pinned (OpenSpec.ofChange restArchivesSpec)

/-- ITS FALSE NEIGHBOUR: 'it returns false'. Refute it at one input. -/
def restArchivesWrong : ChangeSpec := { name := "restArchives", fn := fun _ => fun
  | [d1, d2, d3, d4] => { results := [.lit (.bool false)], args := [d1, d2, d3, d4] }
  | _ => none }
def RestArchivesWrongFalsely : Prop := restArchivesRow.holds Tryz.pinned (OpenSpec.ofChange restArchivesWrong)

/-- 'pocketpresslaw.LogDoes': WHATEVER THE INPUT: true; the input reads as it did. -/
def logDoesSpec : ChangeSpec := { name := "logDoes", fn := fun _ => fun
  | [d1, d2] => { results := [.lit (.bool true)], args := [d1, d2] }
  | _ => none }
def logDoesRow : OpenClaim := { program := "ytjpgoeimclipjaagreat", sum := "2385d1d45957c504deff556567fc84471b4c973c60b0a4c7a2018f16f810f98a", func := "pocketpress/pocketpresslaw.LogDoes", spec := "logDoes", inPlace := ["internal/abi.NoEscape", "slices.overlaps[pocketpress/api.File]", "internal/bytealg.IndexByteString", "internal/bytealg.IndexString"], unfollowed := true, recurses := true, named := ["internal/bytealg.MaxLen"], plainKeys := false, apart := false }
def LogDoesSaid : Prop := logDoesRow.holds Tryz.pinned (OpenSpec.ofChange logDoesSpec)

/-- ITS FALSE NEIGHBOUR: 'it returns false'. Refute it at one input. -/
def logDoesWrong : ChangeSpec := { name := "logDoes", fn := fun _ => fun
  | [d1, d2] => { results := [.lit (.bool false)], args := [d1, d2] }
  | _ => none }
def LogDoesWrongFalsely : Prop := logDoesRow.holds Tryz.pinned (OpenSpec.ofChange logDoesWrong)

/-- 'pocketpresslaw.LogReplays': WHATEVER THE INPUT: true; the input reads as it did. -/
def logReplaysSpec : ChangeSpec := { name := "logReplays", fn := fun _ => fun
  | [d1, d2] => { results := [.lit (.bool true)], args := [d1, d2] }
  | _ => none }
def logReplaysRow : OpenClaim := { program := "ytjpgoeimclipjaagreat", sum := "2385d1d45957c504deff556567fc84471b4c973c60b0a4c7a2018f16f810f98a", func := "pocketpress/pocketpresslaw.LogReplays", spec := "logReplays", inPlace := ["internal/abi.NoEscape", "slices.overlaps[pocketpress/api.File]", "internal/bytealg.IndexByteString", "internal/bytealg.IndexString"], unfollowed := true, recurses := true, named := ["internal/bytealg.MaxLen"], plainKeys := false, apart := false }
def LogReplaysSaid : Prop := logReplaysRow.holds Tryz.pinned (OpenSpec.ofChange logReplaysSpec)

/-- ITS FALSE NEIGHBOUR: 'it returns false'. Refute it at one input. -/
def logReplaysWrong : ChangeSpec := { name := "logReplays", fn := fun _ => fun
  | [d1, d2] => { results := [.lit (.bool false)], args := [d1, d2] }
  | _ => none }
def LogReplaysWrongFalsely : Prop := logReplaysRow.holds Tryz.pinned (OpenSpec.ofChange logReplaysWrong)

/-- 'pocketpresslaw.LogStores': WHATEVER THE INPUT: true; the input reads as it did. -/
def logStoresSpec : ChangeSpec := { name := "logStores", fn := fun _ => fun
  | [d1, d2] => { results := [.lit (.bool true)], args := [d1, d2] }
  | _ => none }
def logStoresRow : OpenClaim := { program := "ytjpgoeimclipjaagreat", sum := "2385d1d45957c504deff556567fc84471b4c973c60b0a4c7a2018f16f810f98a", func := "pocketpress/pocketpresslaw.LogStores", spec := "logStores", inPlace := ["internal/abi.NoEscape", "slices.overlaps[pocketpress/api.File]", "internal/bytealg.IndexByteString", "internal/bytealg.IndexString"], unfollowed := true, recurses := true, named := ["internal/bytealg.MaxLen"], plainKeys := false, apart := false }
def LogStoresSaid : Prop := logStoresRow.holds Tryz.pinned (OpenSpec.ofChange logStoresSpec)

/-- ITS FALSE NEIGHBOUR: 'it returns false'. Refute it at one input. -/
def logStoresWrong : ChangeSpec := { name := "logStores", fn := fun _ => fun
  | [d1, d2] => { results := [.lit (.bool false)], args := [d1, d2] }
  | _ => none }
def LogStoresWrongFalsely : Prop := logStoresRow.holds Tryz.pinned (OpenSpec.ofChange logStoresWrong)

/- THE SECOND FORM. 'bulk': how many values and letters a reading holds, each counted each time it is reached (what is shared counts as often as it is met; a slice's spare places count too). A statement '..UptoSaid' is the law's where the arguments, and the package variables that the reading takes, are together of bulk at most 1048576: NARROWER than '..Said'. Prove '..Said' where nothing that the law and all that it calls make is longer than what came in: it says more and counts as full. Else prove '..UptoSaid'. A law counts once. -/
mutual
def uptoBulk {H : Type} : DataW H → Nat
  | .lit (.string bytes) => bytes.length + 1
  | .lit _ => 1
  | .nil => 1
  | .ptr d => uptoBulk d + 1
  | .slice elems spare => uptoBulkAll elems + uptoBulkAll spare + 1
  | .agg parts => uptoBulkAll parts + 1
  | .iface _ d => uptoBulk d + 1
  | .map entries => uptoBulkEntries entries + 1
  | .held _ => 1
def uptoBulkAll {H : Type} : List (DataW H) → Nat
  | [] => 0
  | d :: r => uptoBulk d + uptoBulkAll r
def uptoBulkEntries {H : Type} : List (Lit × DataW H) → Nat
  | [] => 0
  | x :: r => uptoBulkEntry x + uptoBulkEntries r
def uptoBulkEntry {H : Type} : Lit × DataW H → Nat
  | (.string bytes, d) => bytes.length + uptoBulk d + 1
  | (_, d) => uptoBulk d + 1
 end
def uptoSmall : (H : Type) → List (DataW H) → Bool := fun _ ds => decide (uptoBulkAll ds ≤ 1048576)
def OpenSpec.upto (s : _root_.Go.ChangeSpec) : _root_.Go.OpenSpec := { _root_.Go.OpenSpec.ofChange s with cond := some uptoSmall }

/-- 'pocketpresslaw.LogKept', WHERE WHAT IT READS IS OF BULK AT MOST 1048576: true; the input reads as it did. -/
def logKeptUptoRow : OpenClaim := { program := "ytjpgoeimclipjaagreat", sum := "2385d1d45957c504deff556567fc84471b4c973c60b0a4c7a2018f16f810f98a", func := "pocketpress/pocketpresslaw.LogKept", spec := "logKept", inPlace := ["internal/abi.NoEscape", "slices.overlaps[pocketpress/api.File]", "internal/bytealg.IndexByteString", "internal/bytealg.IndexString"], unfollowed := true, recurses := true, named := ["internal/bytealg.MaxLen"], plainKeys := false, apart := false, narrowed := true }
def LogKeptUptoSaid : Prop := logKeptUptoRow.holds Tryz.pinned (OpenSpec.upto logKeptSpec)

/-- 'pocketpresslaw.ImageSaves', WHERE WHAT IT READS IS OF BULK AT MOST 1048576: true; the input reads as it did. -/
def imageSavesUptoRow : OpenClaim := { program := "ytjpgoeimclipjaagreat", sum := "2385d1d45957c504deff556567fc84471b4c973c60b0a4c7a2018f16f810f98a", func := "pocketpress/pocketpresslaw.ImageSaves", spec := "imageSaves", inPlace := ["internal/abi.NoEscape", "slices.overlaps[pocketpress/api.File]", "internal/bytealg.IndexByteString", "internal/bytealg.IndexString"], unfollowed := true, recurses := true, named := ["internal/bytealg.MaxLen"], plainKeys := false, apart := false, narrowed := true }
def ImageSavesUptoSaid : Prop := imageSavesUptoRow.holds Tryz.pinned (OpenSpec.upto imageSavesSpec)

/-- 'pocketpresslaw.ImageBack', WHERE WHAT IT READS IS OF BULK AT MOST 1048576: true; the input reads as it did. -/
def imageBackUptoRow : OpenClaim := { program := "ytjpgoeimclipjaagreat", sum := "2385d1d45957c504deff556567fc84471b4c973c60b0a4c7a2018f16f810f98a", func := "pocketpress/pocketpresslaw.ImageBack", spec := "imageBack", inPlace := ["internal/abi.NoEscape", "slices.overlaps[pocketpress/api.File]", "internal/bytealg.IndexByteString", "internal/bytealg.IndexString"], unfollowed := true, recurses := true, named := ["internal/bytealg.MaxLen"], plainKeys := false, apart := false, narrowed := true }
def ImageBackUptoSaid : Prop := imageBackUptoRow.holds Tryz.pinned (OpenSpec.upto imageBackSpec)

/-- 'pocketpresslaw.ArchPuts', WHERE WHAT IT READS IS OF BULK AT MOST 1048576: true; the input reads as it did. -/
def archPutsUptoRow : OpenClaim := { program := "ytjpgoeimclipjaagreat", sum := "2385d1d45957c504deff556567fc84471b4c973c60b0a4c7a2018f16f810f98a", func := "pocketpress/pocketpresslaw.ArchPuts", spec := "archPuts", inPlace := ["internal/abi.NoEscape", "slices.overlaps[pocketpress/api.File]", "internal/bytealg.IndexByteString", "internal/bytealg.IndexString", "internal/bytealg.MakeNoZero"], unfollowed := true, recurses := true, named := ["internal/bytealg.MaxLen"], plainKeys := false, apart := false, narrowed := true }
def ArchPutsUptoSaid : Prop := archPutsUptoRow.holds Tryz.pinned (OpenSpec.upto archPutsSpec)

/-- 'pocketpresslaw.ArchGets', WHERE WHAT IT READS IS OF BULK AT MOST 1048576: true; the input reads as it did. -/
def archGetsUptoRow : OpenClaim := { program := "ytjpgoeimclipjaagreat", sum := "2385d1d45957c504deff556567fc84471b4c973c60b0a4c7a2018f16f810f98a", func := "pocketpress/pocketpresslaw.ArchGets", spec := "archGets", inPlace := ["internal/abi.NoEscape", "slices.overlaps[pocketpress/api.File]", "internal/bytealg.IndexByteString", "internal/bytealg.IndexString", "internal/bytealg.MakeNoZero"], unfollowed := true, recurses := true, named := ["internal/bytealg.MaxLen"], plainKeys := false, apart := false, narrowed := true }
def ArchGetsUptoSaid : Prop := archGetsUptoRow.holds Tryz.pinned (OpenSpec.upto archGetsSpec)

/-- 'pocketpresslaw.ArchTrains', WHERE WHAT IT READS IS OF BULK AT MOST 1048576: true; the input reads as it did. -/
def archTrainsUptoRow : OpenClaim := { program := "ytjpgoeimclipjaagreat", sum := "2385d1d45957c504deff556567fc84471b4c973c60b0a4c7a2018f16f810f98a", func := "pocketpress/pocketpresslaw.ArchTrains", spec := "archTrains", inPlace := ["internal/bytealg.IndexByteString", "internal/bytealg.IndexString", "internal/abi.NoEscape", "internal/bytealg.MakeNoZero", "slices.overlaps[pocketpress/api.File]"], unfollowed := true, recurses := true, named := ["internal/bytealg.MaxLen"], plainKeys := false, apart := false, narrowed := true }
def ArchTrainsUptoSaid : Prop := archTrainsUptoRow.holds Tryz.pinned (OpenSpec.upto archTrainsSpec)

/-- 'pocketpresslaw.ArchTrue', WHERE WHAT IT READS IS OF BULK AT MOST 1048576: true; the input reads as it did. -/
def archTrueUptoRow : OpenClaim := { program := "ytjpgoeimclipjaagreat", sum := "2385d1d45957c504deff556567fc84471b4c973c60b0a4c7a2018f16f810f98a", func := "pocketpress/pocketpresslaw.ArchTrue", spec := "archTrue", inPlace := ["internal/abi.NoEscape", "slices.overlaps[pocketpress/api.File]", "internal/bytealg.IndexByteString", "internal/bytealg.IndexString", "internal/bytealg.MakeNoZero"], unfollowed := true, recurses := true, named := ["internal/bytealg.MaxLen"], plainKeys := false, apart := false, narrowed := true }
def ArchTrueUptoSaid : Prop := archTrueUptoRow.holds Tryz.pinned (OpenSpec.upto archTrueSpec)

/-- 'pocketpresslaw.ArchStays', WHERE WHAT IT READS IS OF BULK AT MOST 1048576: true; the input reads as it did. -/
def archStaysUptoRow : OpenClaim := { program := "ytjpgoeimclipjaagreat", sum := "2385d1d45957c504deff556567fc84471b4c973c60b0a4c7a2018f16f810f98a", func := "pocketpress/pocketpresslaw.ArchStays", spec := "archStays", inPlace := ["internal/bytealg.IndexByteString", "internal/bytealg.IndexString", "internal/abi.NoEscape", "slices.overlaps[pocketpress/api.File]", "internal/bytealg.MakeNoZero"], unfollowed := true, recurses := true, named := ["internal/bytealg.MaxLen"], plainKeys := false, apart := false, narrowed := true }
def ArchStaysUptoSaid : Prop := archStaysUptoRow.holds Tryz.pinned (OpenSpec.upto archStaysSpec)

/-- 'pocketpresslaw.RestArchives', WHERE WHAT IT READS IS OF BULK AT MOST 1048576: true; the input reads as it did. -/
def restArchivesUptoRow : OpenClaim := { program := "ytjpgoeimclipjaagreat", sum := "2385d1d45957c504deff556567fc84471b4c973c60b0a4c7a2018f16f810f98a", func := "pocketpress/pocketpresslaw.RestArchives", spec := "restArchives", inPlace := ["internal/abi.NoEscape", "slices.overlaps[pocketpress/api.File]", "internal/bytealg.IndexByteString", "internal/bytealg.IndexString", "internal/bytealg.MakeNoZero"], unfollowed := true, recurses := true, named := ["internal/bytealg.MaxLen"], plainKeys := false, apart := false, narrowed := true }
def RestArchivesUptoSaid : Prop := restArchivesUptoRow.holds Tryz.pinned (OpenSpec.upto restArchivesSpec)

/-- 'pocketpresslaw.LogDoes', WHERE WHAT IT READS IS OF BULK AT MOST 1048576: true; the input reads as it did. -/
def logDoesUptoRow : OpenClaim := { program := "ytjpgoeimclipjaagreat", sum := "2385d1d45957c504deff556567fc84471b4c973c60b0a4c7a2018f16f810f98a", func := "pocketpress/pocketpresslaw.LogDoes", spec := "logDoes", inPlace := ["internal/abi.NoEscape", "slices.overlaps[pocketpress/api.File]", "internal/bytealg.IndexByteString", "internal/bytealg.IndexString"], unfollowed := true, recurses := true, named := ["internal/bytealg.MaxLen"], plainKeys := false, apart := false, narrowed := true }
def LogDoesUptoSaid : Prop := logDoesUptoRow.holds Tryz.pinned (OpenSpec.upto logDoesSpec)

/-- 'pocketpresslaw.LogReplays', WHERE WHAT IT READS IS OF BULK AT MOST 1048576: true; the input reads as it did. -/
def logReplaysUptoRow : OpenClaim := { program := "ytjpgoeimclipjaagreat", sum := "2385d1d45957c504deff556567fc84471b4c973c60b0a4c7a2018f16f810f98a", func := "pocketpress/pocketpresslaw.LogReplays", spec := "logReplays", inPlace := ["internal/abi.NoEscape", "slices.overlaps[pocketpress/api.File]", "internal/bytealg.IndexByteString", "internal/bytealg.IndexString"], unfollowed := true, recurses := true, named := ["internal/bytealg.MaxLen"], plainKeys := false, apart := false, narrowed := true }
def LogReplaysUptoSaid : Prop := logReplaysUptoRow.holds Tryz.pinned (OpenSpec.upto logReplaysSpec)

/-- 'pocketpresslaw.LogStores', WHERE WHAT IT READS IS OF BULK AT MOST 1048576: true; the input reads as it did. -/
def logStoresUptoRow : OpenClaim := { program := "ytjpgoeimclipjaagreat", sum := "2385d1d45957c504deff556567fc84471b4c973c60b0a4c7a2018f16f810f98a", func := "pocketpress/pocketpresslaw.LogStores", spec := "logStores", inPlace := ["internal/abi.NoEscape", "slices.overlaps[pocketpress/api.File]", "internal/bytealg.IndexByteString", "internal/bytealg.IndexString"], unfollowed := true, recurses := true, named := ["internal/bytealg.MaxLen"], plainKeys := false, apart := false, narrowed := true }
def LogStoresUptoSaid : Prop := logStoresUptoRow.holds Tryz.pinned (OpenSpec.upto logStoresSpec)

end Rows
end Go.Proofs.YtjpgoeimclipjaaGreat
