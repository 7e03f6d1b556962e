/-
  No cell of these rows narrows 'for every input' (looked for: loops, veiled, ifaces, maps, wideKeys, modest, calm, conditions, laid).
  DERIVED. THE GIVEN ROWS OF THIS SEAT. 14 by the template 'for every input the law returns true; each argument reads behind the call as it read before'; 0 by the template 'total and deterministic' (their statements: YtmecmmpgkcileaaTotals.lean).
  GIVEN WITH THE SEED: the statements are not yours to turn. If you find one false, say at which input.
  Laid BY PROGRAM, IN A SANDBOX (cutbox-rows.mjs): the forced cells as the released guide's own fill.sh prints them over the translation b599f7b7816722b1… (all of the seat's roots in one cut). By AI agents, Wed Nov 11 2026. No macro, syntax, notation, axiom, sorry.
-/
import Derived.Test.YtmecmmpgkcileaaChecked
import GoSem.Claim
import GoSem.ClaimJoined
import GoSem.ClaimMapViews
import Derived.JoinedTies
import Derived.KernelRfl
namespace Go.Proofs.Ytmecmmpgkcileaa
/- THE CELL 'sum', in the pinned program and in every row, IS THE sha256 OF THE DUMP (.gsa) THAT YtmecmmpgkcileaaProg.lean LOADS. Nothing in Lean hashes anything: it is a label: what it is worth is what the hold of that sum in a sandbox is worth. -/
noncomputable def Try.pinned : Pinned := { name := "ytmecmmpgkcileaa", sum := "b599f7b7816722b12ed93a68184ee8c63ae550c388d4a7098042a25f6b91bfc2", checked := Try.checked }
namespace Rows
def none {H : Type} : Left H := { results := [], args := [] }

/-- 'regletlaw18.EditFinds': WHATEVER THE INPUT: true; the input reads as it did. -/
def editFindsSpec : ChangeSpec := { name := "editFinds", fn := fun _ => fun
  | [d1, d2] => { results := [.lit (.bool true)], args := [d1, d2] }
  | _ => none }
def editFindsRow : OpenClaim := { program := "ytmecmmpgkcileaa", sum := "b599f7b7816722b12ed93a68184ee8c63ae550c388d4a7098042a25f6b91bfc2", func := "reglet/regletlaw18.EditFinds", spec := "editFinds", inPlace := ["internal/bytealg.IndexByteString", "internal/abi.NoEscape", "internal/bytealg.MakeNoZero"], unfollowed := true, recurses := true, apart := false }
def EditFindsSaid : Prop := editFindsRow.holds Try.pinned (OpenSpec.ofChange editFindsSpec)

/-- ITS FALSE NEIGHBOUR: 'it returns false'. Refute it at one input. -/
def editFindsWrong : ChangeSpec := { name := "editFinds", fn := fun _ => fun
  | [d1, d2] => { results := [.lit (.bool false)], args := [d1, d2] }
  | _ => none }
def EditFindsWrongFalsely : Prop := editFindsRow.holds Try.pinned (OpenSpec.ofChange editFindsWrong)

/-- 'regletlaw18.EditApplies': WHATEVER THE INPUT: true; the input reads as it did. -/
def editAppliesSpec : ChangeSpec := { name := "editApplies", fn := fun _ => fun
  | [d1, d2] => { results := [.lit (.bool true)], args := [d1, d2] }
  | _ => none }
def editAppliesRow : OpenClaim := { program := "ytmecmmpgkcileaa", sum := "b599f7b7816722b12ed93a68184ee8c63ae550c388d4a7098042a25f6b91bfc2", func := "reglet/regletlaw18.EditApplies", spec := "editApplies", inPlace := ["internal/bytealg.IndexByteString", "internal/abi.NoEscape", "internal/bytealg.MakeNoZero"], unfollowed := true, recurses := true, apart := false }
def EditAppliesSaid : Prop := editAppliesRow.holds Try.pinned (OpenSpec.ofChange editAppliesSpec)

/-- ITS FALSE NEIGHBOUR: 'it returns false'. Refute it at one input. -/
def editAppliesWrong : ChangeSpec := { name := "editApplies", fn := fun _ => fun
  | [d1, d2] => { results := [.lit (.bool false)], args := [d1, d2] }
  | _ => none }
def EditAppliesWrongFalsely : Prop := editAppliesRow.holds Try.pinned (OpenSpec.ofChange editAppliesWrong)

/-- 'regletlaw18.EditWays': WHATEVER THE INPUT: true; the input reads as it did. -/
def editWaysSpec : ChangeSpec := { name := "editWays", fn := fun _ => fun
  | [d1, d2, d3] => { results := [.lit (.bool true)], args := [d1, d2, d3] }
  | _ => none }
def editWaysRow : OpenClaim := { program := "ytmecmmpgkcileaa", sum := "b599f7b7816722b12ed93a68184ee8c63ae550c388d4a7098042a25f6b91bfc2", func := "reglet/regletlaw18.EditWays", spec := "editWays", inPlace := ["internal/bytealg.IndexByteString", "internal/abi.NoEscape", "internal/bytealg.MakeNoZero"], unfollowed := true, recurses := true, apart := false }
def EditWaysSaid : Prop := editWaysRow.holds Try.pinned (OpenSpec.ofChange editWaysSpec)

/-- ITS FALSE NEIGHBOUR: 'it returns false'. Refute it at one input. -/
def editWaysWrong : ChangeSpec := { name := "editWays", fn := fun _ => fun
  | [d1, d2, d3] => { results := [.lit (.bool false)], args := [d1, d2, d3] }
  | _ => none }
def EditWaysWrongFalsely : Prop := editWaysRow.holds Try.pinned (OpenSpec.ofChange editWaysWrong)

/-- 'regletlaw18.EditNames': WHATEVER THE INPUT: true; the input reads as it did. -/
def editNamesSpec : ChangeSpec := { name := "editNames", fn := fun _ => fun
  | [] => { results := [.lit (.bool true)], args := [] }
  | _ => none }
def editNamesRow : OpenClaim := { program := "ytmecmmpgkcileaa", sum := "b599f7b7816722b12ed93a68184ee8c63ae550c388d4a7098042a25f6b91bfc2", func := "reglet/regletlaw18.EditNames", spec := "editNames", inPlace := ["internal/bytealg.IndexByteString", "internal/abi.NoEscape", "internal/bytealg.MakeNoZero"], unfollowed := true, recurses := true, apart := false }
def EditNamesSaid : Prop := editNamesRow.holds Try.pinned (OpenSpec.ofChange editNamesSpec)

/-- ITS FALSE NEIGHBOUR: 'it returns false'. Refute it at one input. -/
def editNamesWrong : ChangeSpec := { name := "editNames", fn := fun _ => fun
  | [] => { results := [.lit (.bool false)], args := [] }
  | _ => none }
def EditNamesWrongFalsely : Prop := editNamesRow.holds Try.pinned (OpenSpec.ofChange editNamesWrong)

/-- 'regletlaw18.EditMakes': WHATEVER THE INPUT: true; the input reads as it did. -/
def editMakesSpec : ChangeSpec := { name := "editMakes", fn := fun _ => fun
  | [d1, d2, d3] => { results := [.lit (.bool true)], args := [d1, d2, d3] }
  | _ => none }
def editMakesRow : OpenClaim := { program := "ytmecmmpgkcileaa", sum := "b599f7b7816722b12ed93a68184ee8c63ae550c388d4a7098042a25f6b91bfc2", func := "reglet/regletlaw18.EditMakes", spec := "editMakes", inPlace := ["internal/bytealg.IndexByteString", "internal/abi.NoEscape", "internal/bytealg.MakeNoZero"], unfollowed := true, recurses := true, apart := false }
def EditMakesSaid : Prop := editMakesRow.holds Try.pinned (OpenSpec.ofChange editMakesSpec)

/-- ITS FALSE NEIGHBOUR: 'it returns false'. Refute it at one input. -/
def editMakesWrong : ChangeSpec := { name := "editMakes", fn := fun _ => fun
  | [d1, d2, d3] => { results := [.lit (.bool false)], args := [d1, d2, d3] }
  | _ => none }
def EditMakesWrongFalsely : Prop := editMakesRow.holds Try.pinned (OpenSpec.ofChange editMakesWrong)

/-- 'regletlaw18.EditTwice': WHATEVER THE INPUT: true; the input reads as it did. -/
def editTwiceSpec : ChangeSpec := { name := "editTwice", fn := fun _ => fun
  | [d1, d2] => { results := [.lit (.bool true)], args := [d1, d2] }
  | _ => none }
def editTwiceRow : OpenClaim := { program := "ytmecmmpgkcileaa", sum := "b599f7b7816722b12ed93a68184ee8c63ae550c388d4a7098042a25f6b91bfc2", func := "reglet/regletlaw18.EditTwice", spec := "editTwice", inPlace := ["internal/bytealg.IndexByteString", "internal/abi.NoEscape", "internal/bytealg.MakeNoZero"], unfollowed := true, recurses := true, apart := false }
def EditTwiceSaid : Prop := editTwiceRow.holds Try.pinned (OpenSpec.ofChange editTwiceSpec)

/-- ITS FALSE NEIGHBOUR: 'it returns false'. Refute it at one input. -/
def editTwiceWrong : ChangeSpec := { name := "editTwice", fn := fun _ => fun
  | [d1, d2] => { results := [.lit (.bool false)], args := [d1, d2] }
  | _ => none }
def EditTwiceWrongFalsely : Prop := editTwiceRow.holds Try.pinned (OpenSpec.ofChange editTwiceWrong)

/-- 'regletlaw20.PlaceMoves': WHATEVER THE INPUT: true; the input reads as it did. -/
def placeMovesSpec : ChangeSpec := { name := "placeMoves", fn := fun _ => fun
  | [d1, d2, d3] => { results := [.lit (.bool true)], args := [d1, d2, d3] }
  | _ => none }
def placeMovesRow : OpenClaim := { program := "ytmecmmpgkcileaa", sum := "b599f7b7816722b12ed93a68184ee8c63ae550c388d4a7098042a25f6b91bfc2", func := "reglet/regletlaw20.PlaceMoves", spec := "placeMoves", inPlace := ["internal/bytealg.IndexByteString", "internal/abi.NoEscape", "internal/bytealg.MakeNoZero"], unfollowed := true, recurses := true, apart := false }
def PlaceMovesSaid : Prop := placeMovesRow.holds Try.pinned (OpenSpec.ofChange placeMovesSpec)

/-- ITS FALSE NEIGHBOUR: 'it returns false'. Refute it at one input. -/
def placeMovesWrong : ChangeSpec := { name := "placeMoves", fn := fun _ => fun
  | [d1, d2, d3] => { results := [.lit (.bool false)], args := [d1, d2, d3] }
  | _ => none }
def PlaceMovesWrongFalsely : Prop := placeMovesRow.holds Try.pinned (OpenSpec.ofChange placeMovesWrong)

/-- 'regletlaw20.PlaceRises': WHATEVER THE INPUT: true; the input reads as it did. -/
def placeRisesSpec : ChangeSpec := { name := "placeRises", fn := fun _ => fun
  | [d1, d2, d3, d4] => { results := [.lit (.bool true)], args := [d1, d2, d3, d4] }
  | _ => none }
def placeRisesRow : OpenClaim := { program := "ytmecmmpgkcileaa", sum := "b599f7b7816722b12ed93a68184ee8c63ae550c388d4a7098042a25f6b91bfc2", func := "reglet/regletlaw20.PlaceRises", spec := "placeRises", inPlace := ["internal/bytealg.IndexByteString", "internal/abi.NoEscape", "internal/bytealg.MakeNoZero"], unfollowed := true, recurses := true, apart := false }
def PlaceRisesSaid : Prop := placeRisesRow.holds Try.pinned (OpenSpec.ofChange placeRisesSpec)

/-- ITS FALSE NEIGHBOUR: 'it returns false'. Refute it at one input. -/
def placeRisesWrong : ChangeSpec := { name := "placeRises", fn := fun _ => fun
  | [d1, d2, d3, d4] => { results := [.lit (.bool false)], args := [d1, d2, d3, d4] }
  | _ => none }
def PlaceRisesWrongFalsely : Prop := placeRisesRow.holds Try.pinned (OpenSpec.ofChange placeRisesWrong)

/-- 'regletlaw20.PlaceKept': WHATEVER THE INPUT: true; the input reads as it did. -/
def placeKeptSpec : ChangeSpec := { name := "placeKept", fn := fun _ => fun
  | [d1, d2] => { results := [.lit (.bool true)], args := [d1, d2] }
  | _ => none }
def placeKeptRow : OpenClaim := { program := "ytmecmmpgkcileaa", sum := "b599f7b7816722b12ed93a68184ee8c63ae550c388d4a7098042a25f6b91bfc2", func := "reglet/regletlaw20.PlaceKept", spec := "placeKept", inPlace := ["internal/bytealg.IndexByteString", "internal/abi.NoEscape", "internal/bytealg.MakeNoZero"], unfollowed := true, recurses := true, apart := false }
def PlaceKeptSaid : Prop := placeKeptRow.holds Try.pinned (OpenSpec.ofChange placeKeptSpec)

/-- ITS FALSE NEIGHBOUR: 'it returns false'. Refute it at one input. -/
def placeKeptWrong : ChangeSpec := { name := "placeKept", fn := fun _ => fun
  | [d1, d2] => { results := [.lit (.bool false)], args := [d1, d2] }
  | _ => none }
def PlaceKeptWrongFalsely : Prop := placeKeptRow.holds Try.pinned (OpenSpec.ofChange placeKeptWrong)

/-- 'regletlaw20.PlaceBack': WHATEVER THE INPUT: true; the input reads as it did. -/
def placeBackSpec : ChangeSpec := { name := "placeBack", fn := fun _ => fun
  | [d1, d2] => { results := [.lit (.bool true)], args := [d1, d2] }
  | _ => none }
def placeBackRow : OpenClaim := { program := "ytmecmmpgkcileaa", sum := "b599f7b7816722b12ed93a68184ee8c63ae550c388d4a7098042a25f6b91bfc2", func := "reglet/regletlaw20.PlaceBack", spec := "placeBack", inPlace := ["internal/bytealg.IndexByteString", "internal/abi.NoEscape", "internal/bytealg.MakeNoZero"], unfollowed := true, recurses := true, apart := false }
def PlaceBackSaid : Prop := placeBackRow.holds Try.pinned (OpenSpec.ofChange placeBackSpec)

/-- ITS FALSE NEIGHBOUR: 'it returns false'. Refute it at one input. -/
def placeBackWrong : ChangeSpec := { name := "placeBack", fn := fun _ => fun
  | [d1, d2] => { results := [.lit (.bool false)], args := [d1, d2] }
  | _ => none }
def PlaceBackWrongFalsely : Prop := placeBackRow.holds Try.pinned (OpenSpec.ofChange placeBackWrong)

/-- 'regletlaw18.EditLines': WHATEVER THE INPUT: true; the input reads as it did. -/
def editLinesSpec : ChangeSpec := { name := "editLines", fn := fun _ => fun
  | [d] => { results := [.lit (.bool true)], args := [d] }
  | _ => none }
def editLinesRow : OpenClaim := { program := "ytmecmmpgkcileaa", sum := "b599f7b7816722b12ed93a68184ee8c63ae550c388d4a7098042a25f6b91bfc2", func := "reglet/regletlaw18.EditLines", spec := "editLines", inPlace := ["internal/bytealg.IndexByteString", "internal/abi.NoEscape", "internal/bytealg.MakeNoZero", "internal/bytealg.IndexString"], unfollowed := true, recurses := true, named := ["internal/bytealg.MaxLen"], apart := false }
def EditLinesSaid : Prop := editLinesRow.holds Try.pinned (OpenSpec.ofChange editLinesSpec)

/-- ITS FALSE NEIGHBOUR: 'it returns false'. Refute it at one input. -/
def editLinesWrong : ChangeSpec := { name := "editLines", fn := fun _ => fun
  | [d] => { results := [.lit (.bool false)], args := [d] }
  | _ => none }
def EditLinesWrongFalsely : Prop := editLinesRow.holds Try.pinned (OpenSpec.ofChange editLinesWrong)

/-- 'regletlaw20.PlaceLines': WHATEVER THE INPUT: true; the input reads as it did. -/
def placeLinesSpec : ChangeSpec := { name := "placeLines", fn := fun _ => fun
  | [d1, d2, d3, d4] => { results := [.lit (.bool true)], args := [d1, d2, d3, d4] }
  | _ => none }
def placeLinesRow : OpenClaim := { program := "ytmecmmpgkcileaa", sum := "b599f7b7816722b12ed93a68184ee8c63ae550c388d4a7098042a25f6b91bfc2", func := "reglet/regletlaw20.PlaceLines", spec := "placeLines", inPlace := ["internal/bytealg.IndexByteString", "internal/abi.NoEscape", "internal/bytealg.MakeNoZero", "internal/bytealg.CountString", "internal/bytealg.IndexString"], unfollowed := true, recurses := true, named := ["internal/bytealg.MaxLen"], apart := false }
def PlaceLinesSaid : Prop := placeLinesRow.holds Try.pinned (OpenSpec.ofChange placeLinesSpec)

/-- ITS FALSE NEIGHBOUR: 'it returns false'. Refute it at one input. -/
def placeLinesWrong : ChangeSpec := { name := "placeLines", fn := fun _ => fun
  | [d1, d2, d3, d4] => { results := [.lit (.bool false)], args := [d1, d2, d3, d4] }
  | _ => none }
def PlaceLinesWrongFalsely : Prop := placeLinesRow.holds Try.pinned (OpenSpec.ofChange placeLinesWrong)

/-- 'regletlaw20.PlaceSteps': WHATEVER THE INPUT: true; the input reads as it did. -/
def placeStepsSpec : ChangeSpec := { name := "placeSteps", fn := fun _ => fun
  | [d1, d2] => { results := [.lit (.bool true)], args := [d1, d2] }
  | _ => none }
def placeStepsRow : OpenClaim := { program := "ytmecmmpgkcileaa", sum := "b599f7b7816722b12ed93a68184ee8c63ae550c388d4a7098042a25f6b91bfc2", func := "reglet/regletlaw20.PlaceSteps", spec := "placeSteps", inPlace := ["internal/bytealg.IndexByteString", "internal/abi.NoEscape", "internal/bytealg.MakeNoZero", "internal/bytealg.CountString", "internal/bytealg.IndexString"], unfollowed := true, recurses := true, named := ["internal/bytealg.MaxLen"], apart := false }
def PlaceStepsSaid : Prop := placeStepsRow.holds Try.pinned (OpenSpec.ofChange placeStepsSpec)

/-- ITS FALSE NEIGHBOUR: 'it returns false'. Refute it at one input. -/
def placeStepsWrong : ChangeSpec := { name := "placeSteps", fn := fun _ => fun
  | [d1, d2] => { results := [.lit (.bool false)], args := [d1, d2] }
  | _ => none }
def PlaceStepsWrongFalsely : Prop := placeStepsRow.holds Try.pinned (OpenSpec.ofChange placeStepsWrong)

/-- 'regletlaw20.PlaceNames': WHATEVER THE INPUT: true; the input reads as it did. -/
def placeNamesSpec : ChangeSpec := { name := "placeNames", fn := fun _ => fun
  | [] => { results := [.lit (.bool true)], args := [] }
  | _ => none }
def placeNamesRow : OpenClaim := { program := "ytmecmmpgkcileaa", sum := "b599f7b7816722b12ed93a68184ee8c63ae550c388d4a7098042a25f6b91bfc2", func := "reglet/regletlaw20.PlaceNames", spec := "placeNames", inPlace := ["internal/bytealg.IndexByteString", "internal/abi.NoEscape", "internal/bytealg.MakeNoZero", "internal/bytealg.CountString", "internal/bytealg.IndexString"], unfollowed := true, recurses := true, named := ["internal/bytealg.MaxLen"], apart := false }
def PlaceNamesSaid : Prop := placeNamesRow.holds Try.pinned (OpenSpec.ofChange placeNamesSpec)

/-- ITS FALSE NEIGHBOUR: 'it returns false'. Refute it at one input. -/
def placeNamesWrong : ChangeSpec := { name := "placeNames", fn := fun _ => fun
  | [] => { results := [.lit (.bool false)], args := [] }
  | _ => none }
def PlaceNamesWrongFalsely : Prop := placeNamesRow.holds Try.pinned (OpenSpec.ofChange placeNamesWrong)

/- THE SECOND FORM. 'bulk': how many values and letters a reading holds, each counted each time it is reached (what is shared counts as often as it is met; a slice's spare places count too). A statement '..UptoSaid' is the law's where the arguments, and the package variables that the reading takes, are together of bulk at most 1048576: NARROWER than '..Said'. Prove '..Said' where nothing that the law and all that it calls make is longer than what came in: it says more and counts as full. Else prove '..UptoSaid'. A law counts once. -/
mutual
def uptoBulk {H : Type} : DataW H → Nat
  | .lit (.string bytes) => bytes.length + 1
  | .lit _ => 1
  | .nil => 1
  | .ptr d => uptoBulk d + 1
  | .slice elems spare => uptoBulkAll elems + uptoBulkAll spare + 1
  | .agg parts => uptoBulkAll parts + 1
  | .iface _ d => uptoBulk d + 1
  | .map entries => uptoBulkEntries entries + 1
  | .held _ => 1
def uptoBulkAll {H : Type} : List (DataW H) → Nat
  | [] => 0
  | d :: r => uptoBulk d + uptoBulkAll r
def uptoBulkEntries {H : Type} : List (Lit × DataW H) → Nat
  | [] => 0
  | x :: r => uptoBulkEntry x + uptoBulkEntries r
def uptoBulkEntry {H : Type} : Lit × DataW H → Nat
  | (.string bytes, d) => bytes.length + uptoBulk d + 1
  | (_, d) => uptoBulk d + 1
 end
def uptoSmall : (H : Type) → List (DataW H) → Bool := fun _ ds => decide (uptoBulkAll ds ≤ 1048576)
def OpenSpec.upto (s : _root_.Go.ChangeSpec) : _root_.Go.OpenSpec := { _root_.Go.OpenSpec.ofChange s with cond := some uptoSmall }

/-- 'regletlaw18.EditFinds', WHERE WHAT IT READS IS OF BULK AT MOST 1048576: true; the input reads as it did. -/
def editFindsUptoRow : OpenClaim := { program := "ytmecmmpgkcileaa", sum := "b599f7b7816722b12ed93a68184ee8c63ae550c388d4a7098042a25f6b91bfc2", func := "reglet/regletlaw18.EditFinds", spec := "editFinds", inPlace := ["internal/bytealg.IndexByteString", "internal/abi.NoEscape", "internal/bytealg.MakeNoZero"], unfollowed := true, recurses := true, apart := false, narrowed := true }
def EditFindsUptoSaid : Prop := editFindsUptoRow.holds Try.pinned (OpenSpec.upto editFindsSpec)

/-- 'regletlaw18.EditApplies', WHERE WHAT IT READS IS OF BULK AT MOST 1048576: true; the input reads as it did. -/
def editAppliesUptoRow : OpenClaim := { program := "ytmecmmpgkcileaa", sum := "b599f7b7816722b12ed93a68184ee8c63ae550c388d4a7098042a25f6b91bfc2", func := "reglet/regletlaw18.EditApplies", spec := "editApplies", inPlace := ["internal/bytealg.IndexByteString", "internal/abi.NoEscape", "internal/bytealg.MakeNoZero"], unfollowed := true, recurses := true, apart := false, narrowed := true }
def EditAppliesUptoSaid : Prop := editAppliesUptoRow.holds Try.pinned (OpenSpec.upto editAppliesSpec)

/-- 'regletlaw18.EditWays', WHERE WHAT IT READS IS OF BULK AT MOST 1048576: true; the input reads as it did. -/
def editWaysUptoRow : OpenClaim := { program := "ytmecmmpgkcileaa", sum := "b599f7b7816722b12ed93a68184ee8c63ae550c388d4a7098042a25f6b91bfc2", func := "reglet/regletlaw18.EditWays", spec := "editWays", inPlace := ["internal/bytealg.IndexByteString", "internal/abi.NoEscape", "internal/bytealg.MakeNoZero"], unfollowed := true, recurses := true, apart := false, narrowed := true }
def EditWaysUptoSaid : Prop := editWaysUptoRow.holds Try.pinned (OpenSpec.upto editWaysSpec)

/-- 'regletlaw18.EditNames', WHERE WHAT IT READS IS OF BULK AT MOST 1048576: true; the input reads as it did. -/
def editNamesUptoRow : OpenClaim := { program := "ytmecmmpgkcileaa", sum := "b599f7b7816722b12ed93a68184ee8c63ae550c388d4a7098042a25f6b91bfc2", func := "reglet/regletlaw18.EditNames", spec := "editNames", inPlace := ["internal/bytealg.IndexByteString", "internal/abi.NoEscape", "internal/bytealg.MakeNoZero"], unfollowed := true, recurses := true, apart := false, narrowed := true }
def EditNamesUptoSaid : Prop := editNamesUptoRow.holds Try.pinned (OpenSpec.upto editNamesSpec)

/-- 'regletlaw18.EditMakes', WHERE WHAT IT READS IS OF BULK AT MOST 1048576: true; the input reads as it did. -/
def editMakesUptoRow : OpenClaim := { program := "ytmecmmpgkcileaa", sum := "b599f7b7816722b12ed93a68184ee8c63ae550c388d4a7098042a25f6b91bfc2", func := "reglet/regletlaw18.EditMakes", spec := "editMakes", inPlace := ["internal/bytealg.IndexByteString", "internal/abi.NoEscape", "internal/bytealg.MakeNoZero"], unfollowed := true, recurses := true, apart := false, narrowed := true }
def EditMakesUptoSaid : Prop := editMakesUptoRow.holds Try.pinned (OpenSpec.upto editMakesSpec)

/-- 'regletlaw18.EditTwice', WHERE WHAT IT READS IS OF BULK AT MOST 1048576: true; the input reads as it did. -/
def editTwiceUptoRow : OpenClaim := { program := "ytmecmmpgkcileaa", sum := "b599f7b7816722b12ed93a68184ee8c63ae550c388d4a7098042a25f6b91bfc2", func := "reglet/regletlaw18.EditTwice", spec := "editTwice", inPlace := ["internal/bytealg.IndexByteString", "internal/abi.NoEscape", "internal/bytealg.MakeNoZero"], unfollowed := true, recurses := true, apart := false, narrowed := true }
def EditTwiceUptoSaid : Prop := editTwiceUptoRow.holds Try.pinned (OpenSpec.upto editTwiceSpec)

/-- 'regletlaw20.PlaceMoves', WHERE WHAT IT READS IS OF BULK AT MOST 1048576: true; the input reads as it did. -/
def placeMovesUptoRow : OpenClaim := { program := "ytmecmmpgkcileaa", sum := "b599f7b7816722b12ed93a68184ee8c63ae550c388d4a7098042a25f6b91bfc2", func := "reglet/regletlaw20.PlaceMoves", spec := "placeMoves", inPlace := ["internal/bytealg.IndexByteString", "internal/abi.NoEscape", "internal/bytealg.MakeNoZero"], unfollowed := true, recurses := true, apart := false, narrowed := true }
def PlaceMovesUptoSaid : Prop := placeMovesUptoRow.holds Try.pinned (OpenSpec.upto placeMovesSpec)

/-- 'regletlaw20.PlaceRises', WHERE WHAT IT READS IS OF BULK AT MOST 1048576: true; the input reads as it did. -/
def placeRisesUptoRow : OpenClaim := { program := "ytmecmmpgkcileaa", sum := "b599f7b7816722b12ed93a68184ee8c63ae550c388d4a7098042a25f6b91bfc2", func := "reglet/regletlaw20.PlaceRises", spec := "placeRises", inPlace := ["internal/bytealg.IndexByteString", "internal/abi.NoEscape", "internal/bytealg.MakeNoZero"], unfollowed := true, recurses := true, apart := false, narrowed := true }
def PlaceRisesUptoSaid : Prop := placeRisesUptoRow.holds Try.pinned (OpenSpec.upto placeRisesSpec)

/-- 'regletlaw20.PlaceKept', WHERE WHAT IT READS IS OF BULK AT MOST 1048576: true; the input reads as it did. -/
def placeKeptUptoRow : OpenClaim := { program := "ytmecmmpgkcileaa", sum := "b599f7b7816722b12ed93a68184ee8c63ae550c388d4a7098042a25f6b91bfc2", func := "reglet/regletlaw20.PlaceKept", spec := "placeKept", inPlace := ["internal/bytealg.IndexByteString", "internal/abi.NoEscape", "internal/bytealg.MakeNoZero"], unfollowed := true, recurses := true, apart := false, narrowed := true }
def PlaceKeptUptoSaid : Prop := placeKeptUptoRow.holds Try.pinned (OpenSpec.upto placeKeptSpec)

/-- 'regletlaw20.PlaceBack', WHERE WHAT IT READS IS OF BULK AT MOST 1048576: true; the input reads as it did. -/
def placeBackUptoRow : OpenClaim := { program := "ytmecmmpgkcileaa", sum := "b599f7b7816722b12ed93a68184ee8c63ae550c388d4a7098042a25f6b91bfc2", func := "reglet/regletlaw20.PlaceBack", spec := "placeBack", inPlace := ["internal/bytealg.IndexByteString", "internal/abi.NoEscape", "internal/bytealg.MakeNoZero"], unfollowed := true, recurses := true, apart := false, narrowed := true }
def PlaceBackUptoSaid : Prop := placeBackUptoRow.holds Try.pinned (OpenSpec.upto placeBackSpec)

/-- 'regletlaw18.EditLines', WHERE WHAT IT READS IS OF BULK AT MOST 1048576: true; the input reads as it did. -/
def editLinesUptoRow : OpenClaim := { program := "ytmecmmpgkcileaa", sum := "b599f7b7816722b12ed93a68184ee8c63ae550c388d4a7098042a25f6b91bfc2", func := "reglet/regletlaw18.EditLines", spec := "editLines", inPlace := ["internal/bytealg.IndexByteString", "internal/abi.NoEscape", "internal/bytealg.MakeNoZero", "internal/bytealg.IndexString"], unfollowed := true, recurses := true, named := ["internal/bytealg.MaxLen"], apart := false, narrowed := true }
def EditLinesUptoSaid : Prop := editLinesUptoRow.holds Try.pinned (OpenSpec.upto editLinesSpec)

/-- 'regletlaw20.PlaceLines', WHERE WHAT IT READS IS OF BULK AT MOST 1048576: true; the input reads as it did. -/
def placeLinesUptoRow : OpenClaim := { program := "ytmecmmpgkcileaa", sum := "b599f7b7816722b12ed93a68184ee8c63ae550c388d4a7098042a25f6b91bfc2", func := "reglet/regletlaw20.PlaceLines", spec := "placeLines", inPlace := ["internal/bytealg.IndexByteString", "internal/abi.NoEscape", "internal/bytealg.MakeNoZero", "internal/bytealg.CountString", "internal/bytealg.IndexString"], unfollowed := true, recurses := true, named := ["internal/bytealg.MaxLen"], apart := false, narrowed := true }
def PlaceLinesUptoSaid : Prop := placeLinesUptoRow.holds Try.pinned (OpenSpec.upto placeLinesSpec)

/-- 'regletlaw20.PlaceSteps', WHERE WHAT IT READS IS OF BULK AT MOST 1048576: true; the input reads as it did. -/
def placeStepsUptoRow : OpenClaim := { program := "ytmecmmpgkcileaa", sum := "b599f7b7816722b12ed93a68184ee8c63ae550c388d4a7098042a25f6b91bfc2", func := "reglet/regletlaw20.PlaceSteps", spec := "placeSteps", inPlace := ["internal/bytealg.IndexByteString", "internal/abi.NoEscape", "internal/bytealg.MakeNoZero", "internal/bytealg.CountString", "internal/bytealg.IndexString"], unfollowed := true, recurses := true, named := ["internal/bytealg.MaxLen"], apart := false, narrowed := true }
def PlaceStepsUptoSaid : Prop := placeStepsUptoRow.holds Try.pinned (OpenSpec.upto placeStepsSpec)

/-- 'regletlaw20.PlaceNames', WHERE WHAT IT READS IS OF BULK AT MOST 1048576: true; the input reads as it did. -/
def placeNamesUptoRow : OpenClaim := { program := "ytmecmmpgkcileaa", sum := "b599f7b7816722b12ed93a68184ee8c63ae550c388d4a7098042a25f6b91bfc2", func := "reglet/regletlaw20.PlaceNames", spec := "placeNames", inPlace := ["internal/bytealg.IndexByteString", "internal/abi.NoEscape", "internal/bytealg.MakeNoZero", "internal/bytealg.CountString", "internal/bytealg.IndexString"], unfollowed := true, recurses := true, named := ["internal/bytealg.MaxLen"], apart := false, narrowed := true }
def PlaceNamesUptoSaid : Prop := placeNamesUptoRow.holds Try.pinned (OpenSpec.upto placeNamesSpec)

end Rows
end Go.Proofs.Ytmecmmpgkcileaa
