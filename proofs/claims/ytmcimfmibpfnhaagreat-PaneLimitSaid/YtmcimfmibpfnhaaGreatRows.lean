/-
  No cell of these rows narrows 'for every input' (looked for: loops, veiled, ifaces, maps, wideKeys, modest, calm, conditions, laid).
  DERIVED. THE GIVEN ROWS OF THIS SEAT. 19 by the template 'for every input the law returns true; each argument reads behind the call as it read before'; 0 by the template 'total and deterministic' (their statements: YtmcimfmibpfnhaaGreatTotals.lean).
  GIVEN WITH THE SEED: the statements are not yours to turn. If you find one false, say at which input.
  Laid BY PROGRAM, IN A SANDBOX (cutbox-rows.mjs): the forced cells as the released guide's own fill.sh prints them over the translation e20593bb1efbd572… (all of the seat's roots in one cut). By AI agents, Wed Nov 11 2026. No macro, syntax, notation, axiom, sorry.
-/
import Derived.Test.YtmcimfmibpfnhaaGreatChecked
import GoSem.Claim
import GoSem.ClaimJoined
import GoSem.ClaimMapViews
import Derived.JoinedTies
import Derived.KernelRfl
namespace Go.Proofs.YtmcimfmibpfnhaaGreat
/- THE CELL 'sum', in the pinned program and in every row, IS THE sha256 OF THE DUMP (.gsa) THAT YtmcimfmibpfnhaaGreatProg.lean LOADS. Nothing in Lean hashes anything: it is a label: what it is worth is what the hold of that sum in a sandbox is worth. -/
noncomputable def Tryz.pinned : Pinned := { name := "ytmcimfmibpfnhaagreat", sum := "e20593bb1efbd572ca6747c44c6a8dbb38085842570fec04481b81988aed36c3", checked := Tryz.checked }
namespace Rows
def none {H : Type} : Left H := { results := [], args := [] }

/-- 'rotuluslaw10.LineAll': WHATEVER THE INPUT: true; the input reads as it did. -/
def lineAllSpec : ChangeSpec := { name := "lineAll", fn := fun _ => fun
  | [d1, d2, d3, d4, d5] => { results := [.lit (.bool true)], args := [d1, d2, d3, d4, d5] }
  | _ => none }
def lineAllRow : OpenClaim := { program := "ytmcimfmibpfnhaagreat", sum := "e20593bb1efbd572ca6747c44c6a8dbb38085842570fec04481b81988aed36c3", func := "rotulus/rotuluslaw10.LineAll", spec := "lineAll", unfollowed := true, recurses := true, apart := false }
def LineAllSaid : Prop := lineAllRow.holds Tryz.pinned (OpenSpec.ofChange lineAllSpec)

/-- ITS FALSE NEIGHBOUR: 'it returns false'. Refute it at one input. -/
def lineAllWrong : ChangeSpec := { name := "lineAll", fn := fun _ => fun
  | [d1, d2, d3, d4, d5] => { results := [.lit (.bool false)], args := [d1, d2, d3, d4, d5] }
  | _ => none }
def LineAllWrongFalsely : Prop := lineAllRow.holds Tryz.pinned (OpenSpec.ofChange lineAllWrong)

/-- 'rotuluslaw10.LineEach': WHATEVER THE INPUT: true; the input reads as it did. -/
def lineEachSpec : ChangeSpec := { name := "lineEach", fn := fun _ => fun
  | [d1, d2] => { results := [.lit (.bool true)], args := [d1, d2] }
  | _ => none }
def lineEachRow : OpenClaim := { program := "ytmcimfmibpfnhaagreat", sum := "e20593bb1efbd572ca6747c44c6a8dbb38085842570fec04481b81988aed36c3", func := "rotulus/rotuluslaw10.LineEach", spec := "lineEach", unfollowed := true, recurses := true, apart := false }
def LineEachSaid : Prop := lineEachRow.holds Tryz.pinned (OpenSpec.ofChange lineEachSpec)

/-- ITS FALSE NEIGHBOUR: 'it returns false'. Refute it at one input. -/
def lineEachWrong : ChangeSpec := { name := "lineEach", fn := fun _ => fun
  | [d1, d2] => { results := [.lit (.bool false)], args := [d1, d2] }
  | _ => none }
def LineEachWrongFalsely : Prop := lineEachRow.holds Tryz.pinned (OpenSpec.ofChange lineEachWrong)

/-- 'rotuluslaw10.LineBack': WHATEVER THE INPUT: true; the input reads as it did. -/
def lineBackSpec : ChangeSpec := { name := "lineBack", fn := fun _ => fun
  | [d1, d2] => { results := [.lit (.bool true)], args := [d1, d2] }
  | _ => none }
def lineBackRow : OpenClaim := { program := "ytmcimfmibpfnhaagreat", sum := "e20593bb1efbd572ca6747c44c6a8dbb38085842570fec04481b81988aed36c3", func := "rotulus/rotuluslaw10.LineBack", spec := "lineBack", unfollowed := true, recurses := true, apart := false }
def LineBackSaid : Prop := lineBackRow.holds Tryz.pinned (OpenSpec.ofChange lineBackSpec)

/-- ITS FALSE NEIGHBOUR: 'it returns false'. Refute it at one input. -/
def lineBackWrong : ChangeSpec := { name := "lineBack", fn := fun _ => fun
  | [d1, d2] => { results := [.lit (.bool false)], args := [d1, d2] }
  | _ => none }
def LineBackWrongFalsely : Prop := lineBackRow.holds Tryz.pinned (OpenSpec.ofChange lineBackWrong)

/-- 'rotuluslaw10.LinePlaces': WHATEVER THE INPUT: true; the input reads as it did. -/
def linePlacesSpec : ChangeSpec := { name := "linePlaces", fn := fun _ => fun
  | [d1, d2] => { results := [.lit (.bool true)], args := [d1, d2] }
  | _ => none }
def linePlacesRow : OpenClaim := { program := "ytmcimfmibpfnhaagreat", sum := "e20593bb1efbd572ca6747c44c6a8dbb38085842570fec04481b81988aed36c3", func := "rotulus/rotuluslaw10.LinePlaces", spec := "linePlaces", unfollowed := true, recurses := true, apart := false }
def LinePlacesSaid : Prop := linePlacesRow.holds Tryz.pinned (OpenSpec.ofChange linePlacesSpec)

/-- ITS FALSE NEIGHBOUR: 'it returns false'. Refute it at one input. -/
def linePlacesWrong : ChangeSpec := { name := "linePlaces", fn := fun _ => fun
  | [d1, d2] => { results := [.lit (.bool false)], args := [d1, d2] }
  | _ => none }
def LinePlacesWrongFalsely : Prop := linePlacesRow.holds Tryz.pinned (OpenSpec.ofChange linePlacesWrong)

/-- 'rotuluslaw10.ReflowAll': WHATEVER THE INPUT: true; the input reads as it did. -/
def reflowAllSpec : ChangeSpec := { name := "reflowAll", fn := fun _ => fun
  | [d1, d2, d3] => { results := [.lit (.bool true)], args := [d1, d2, d3] }
  | _ => none }
def reflowAllRow : OpenClaim := { program := "ytmcimfmibpfnhaagreat", sum := "e20593bb1efbd572ca6747c44c6a8dbb38085842570fec04481b81988aed36c3", func := "rotulus/rotuluslaw10.ReflowAll", spec := "reflowAll", unfollowed := true, recurses := true, apart := false }
def ReflowAllSaid : Prop := reflowAllRow.holds Tryz.pinned (OpenSpec.ofChange reflowAllSpec)

/-- ITS FALSE NEIGHBOUR: 'it returns false'. Refute it at one input. -/
def reflowAllWrong : ChangeSpec := { name := "reflowAll", fn := fun _ => fun
  | [d1, d2, d3] => { results := [.lit (.bool false)], args := [d1, d2, d3] }
  | _ => none }
def ReflowAllWrongFalsely : Prop := reflowAllRow.holds Tryz.pinned (OpenSpec.ofChange reflowAllWrong)

/-- 'rotuluslaw10.ReflowBack': WHATEVER THE INPUT: true; the input reads as it did. -/
def reflowBackSpec : ChangeSpec := { name := "reflowBack", fn := fun _ => fun
  | [d1, d2] => { results := [.lit (.bool true)], args := [d1, d2] }
  | _ => none }
def reflowBackRow : OpenClaim := { program := "ytmcimfmibpfnhaagreat", sum := "e20593bb1efbd572ca6747c44c6a8dbb38085842570fec04481b81988aed36c3", func := "rotulus/rotuluslaw10.ReflowBack", spec := "reflowBack", unfollowed := true, recurses := true, apart := false }
def ReflowBackSaid : Prop := reflowBackRow.holds Tryz.pinned (OpenSpec.ofChange reflowBackSpec)

/-- ITS FALSE NEIGHBOUR: 'it returns false'. Refute it at one input. -/
def reflowBackWrong : ChangeSpec := { name := "reflowBack", fn := fun _ => fun
  | [d1, d2] => { results := [.lit (.bool false)], args := [d1, d2] }
  | _ => none }
def ReflowBackWrongFalsely : Prop := reflowBackRow.holds Tryz.pinned (OpenSpec.ofChange reflowBackWrong)

/-- 'rotuluslaw10.ReflowMarks': WHATEVER THE INPUT: true; the input reads as it did. -/
def reflowMarksSpec : ChangeSpec := { name := "reflowMarks", fn := fun _ => fun
  | [d1, d2, d3] => { results := [.lit (.bool true)], args := [d1, d2, d3] }
  | _ => none }
def reflowMarksRow : OpenClaim := { program := "ytmcimfmibpfnhaagreat", sum := "e20593bb1efbd572ca6747c44c6a8dbb38085842570fec04481b81988aed36c3", func := "rotulus/rotuluslaw10.ReflowMarks", spec := "reflowMarks", unfollowed := true, recurses := true, apart := false }
def ReflowMarksSaid : Prop := reflowMarksRow.holds Tryz.pinned (OpenSpec.ofChange reflowMarksSpec)

/-- ITS FALSE NEIGHBOUR: 'it returns false'. Refute it at one input. -/
def reflowMarksWrong : ChangeSpec := { name := "reflowMarks", fn := fun _ => fun
  | [d1, d2, d3] => { results := [.lit (.bool false)], args := [d1, d2, d3] }
  | _ => none }
def ReflowMarksWrongFalsely : Prop := reflowMarksRow.holds Tryz.pinned (OpenSpec.ofChange reflowMarksWrong)

/-- 'rotuluslaw10.PaneParts': WHATEVER THE INPUT: true; the input reads as it did. -/
def panePartsSpec : ChangeSpec := { name := "paneParts", fn := fun _ => fun
  | [d1, d2] => { results := [.lit (.bool true)], args := [d1, d2] }
  | _ => none }
def panePartsRow : OpenClaim := { program := "ytmcimfmibpfnhaagreat", sum := "e20593bb1efbd572ca6747c44c6a8dbb38085842570fec04481b81988aed36c3", func := "rotulus/rotuluslaw10.PaneParts", spec := "paneParts", unfollowed := true, recurses := true, apart := false }
def PanePartsSaid : Prop := panePartsRow.holds Tryz.pinned (OpenSpec.ofChange panePartsSpec)

/-- ITS FALSE NEIGHBOUR: 'it returns false'. Refute it at one input. -/
def panePartsWrong : ChangeSpec := { name := "paneParts", fn := fun _ => fun
  | [d1, d2] => { results := [.lit (.bool false)], args := [d1, d2] }
  | _ => none }
def PanePartsWrongFalsely : Prop := panePartsRow.holds Tryz.pinned (OpenSpec.ofChange panePartsWrong)

/-- 'rotuluslaw10.PaneLimit': WHATEVER THE INPUT: true; the input reads as it did. -/
def paneLimitSpec : ChangeSpec := { name := "paneLimit", fn := fun _ => fun
  | [d1, d2] => { results := [.lit (.bool true)], args := [d1, d2] }
  | _ => none }
def paneLimitRow : OpenClaim := { program := "ytmcimfmibpfnhaagreat", sum := "e20593bb1efbd572ca6747c44c6a8dbb38085842570fec04481b81988aed36c3", func := "rotulus/rotuluslaw10.PaneLimit", spec := "paneLimit", unfollowed := true, recurses := true, apart := false }
def PaneLimitSaid : Prop := paneLimitRow.holds Tryz.pinned (OpenSpec.ofChange paneLimitSpec)

/-- ITS FALSE NEIGHBOUR: 'it returns false'. Refute it at one input. -/
def paneLimitWrong : ChangeSpec := { name := "paneLimit", fn := fun _ => fun
  | [d1, d2] => { results := [.lit (.bool false)], args := [d1, d2] }
  | _ => none }
def PaneLimitWrongFalsely : Prop := paneLimitRow.holds Tryz.pinned (OpenSpec.ofChange paneLimitWrong)

/-- 'rotuluslaw10.LineRows': WHATEVER THE INPUT: true; the input reads as it did. -/
def lineRowsSpec : ChangeSpec := { name := "lineRows", fn := fun _ => fun
  | [d1, d2] => { results := [.lit (.bool true)], args := [d1, d2] }
  | _ => none }
def lineRowsRow : OpenClaim := { program := "ytmcimfmibpfnhaagreat", sum := "e20593bb1efbd572ca6747c44c6a8dbb38085842570fec04481b81988aed36c3", func := "rotulus/rotuluslaw10.LineRows", spec := "lineRows", unfollowed := true, recurses := true, apart := false }
def LineRowsSaid : Prop := lineRowsRow.holds Tryz.pinned (OpenSpec.ofChange lineRowsSpec)

/-- ITS FALSE NEIGHBOUR: 'it returns false'. Refute it at one input. -/
def lineRowsWrong : ChangeSpec := { name := "lineRows", fn := fun _ => fun
  | [d1, d2] => { results := [.lit (.bool false)], args := [d1, d2] }
  | _ => none }
def LineRowsWrongFalsely : Prop := lineRowsRow.holds Tryz.pinned (OpenSpec.ofChange lineRowsWrong)

/-- 'rotuluslaw10.LineJoin': WHATEVER THE INPUT: true; the input reads as it did. -/
def lineJoinSpec : ChangeSpec := { name := "lineJoin", fn := fun _ => fun
  | [d1, d2] => { results := [.lit (.bool true)], args := [d1, d2] }
  | _ => none }
def lineJoinRow : OpenClaim := { program := "ytmcimfmibpfnhaagreat", sum := "e20593bb1efbd572ca6747c44c6a8dbb38085842570fec04481b81988aed36c3", func := "rotulus/rotuluslaw10.LineJoin", spec := "lineJoin", unfollowed := true, recurses := true, apart := false }
def LineJoinSaid : Prop := lineJoinRow.holds Tryz.pinned (OpenSpec.ofChange lineJoinSpec)

/-- ITS FALSE NEIGHBOUR: 'it returns false'. Refute it at one input. -/
def lineJoinWrong : ChangeSpec := { name := "lineJoin", fn := fun _ => fun
  | [d1, d2] => { results := [.lit (.bool false)], args := [d1, d2] }
  | _ => none }
def LineJoinWrongFalsely : Prop := lineJoinRow.holds Tryz.pinned (OpenSpec.ofChange lineJoinWrong)

/-- 'rotuluslaw10.LineEnds': WHATEVER THE INPUT: true; the input reads as it did. -/
def lineEndsSpec : ChangeSpec := { name := "lineEnds", fn := fun _ => fun
  | [d1, d2, d3] => { results := [.lit (.bool true)], args := [d1, d2, d3] }
  | _ => none }
def lineEndsRow : OpenClaim := { program := "ytmcimfmibpfnhaagreat", sum := "e20593bb1efbd572ca6747c44c6a8dbb38085842570fec04481b81988aed36c3", func := "rotulus/rotuluslaw10.LineEnds", spec := "lineEnds", unfollowed := true, recurses := true, apart := false }
def LineEndsSaid : Prop := lineEndsRow.holds Tryz.pinned (OpenSpec.ofChange lineEndsSpec)

/-- ITS FALSE NEIGHBOUR: 'it returns false'. Refute it at one input. -/
def lineEndsWrong : ChangeSpec := { name := "lineEnds", fn := fun _ => fun
  | [d1, d2, d3] => { results := [.lit (.bool false)], args := [d1, d2, d3] }
  | _ => none }
def LineEndsWrongFalsely : Prop := lineEndsRow.holds Tryz.pinned (OpenSpec.ofChange lineEndsWrong)

/-- 'rotuluslaw10.ReflowSame': WHATEVER THE INPUT: true; the input reads as it did. -/
def reflowSameSpec : ChangeSpec := { name := "reflowSame", fn := fun _ => fun
  | [d1, d2] => { results := [.lit (.bool true)], args := [d1, d2] }
  | _ => none }
def reflowSameRow : OpenClaim := { program := "ytmcimfmibpfnhaagreat", sum := "e20593bb1efbd572ca6747c44c6a8dbb38085842570fec04481b81988aed36c3", func := "rotulus/rotuluslaw10.ReflowSame", spec := "reflowSame", unfollowed := true, recurses := true, apart := false }
def ReflowSameSaid : Prop := reflowSameRow.holds Tryz.pinned (OpenSpec.ofChange reflowSameSpec)

/-- ITS FALSE NEIGHBOUR: 'it returns false'. Refute it at one input. -/
def reflowSameWrong : ChangeSpec := { name := "reflowSame", fn := fun _ => fun
  | [d1, d2] => { results := [.lit (.bool false)], args := [d1, d2] }
  | _ => none }
def ReflowSameWrongFalsely : Prop := reflowSameRow.holds Tryz.pinned (OpenSpec.ofChange reflowSameWrong)

/-- 'rotuluslaw10.ReflowOne': WHATEVER THE INPUT: true; the input reads as it did. -/
def reflowOneSpec : ChangeSpec := { name := "reflowOne", fn := fun _ => fun
  | [d1, d2, d3] => { results := [.lit (.bool true)], args := [d1, d2, d3] }
  | _ => none }
def reflowOneRow : OpenClaim := { program := "ytmcimfmibpfnhaagreat", sum := "e20593bb1efbd572ca6747c44c6a8dbb38085842570fec04481b81988aed36c3", func := "rotulus/rotuluslaw10.ReflowOne", spec := "reflowOne", unfollowed := true, recurses := true, apart := false }
def ReflowOneSaid : Prop := reflowOneRow.holds Tryz.pinned (OpenSpec.ofChange reflowOneSpec)

/-- ITS FALSE NEIGHBOUR: 'it returns false'. Refute it at one input. -/
def reflowOneWrong : ChangeSpec := { name := "reflowOne", fn := fun _ => fun
  | [d1, d2, d3] => { results := [.lit (.bool false)], args := [d1, d2, d3] }
  | _ => none }
def ReflowOneWrongFalsely : Prop := reflowOneRow.holds Tryz.pinned (OpenSpec.ofChange reflowOneWrong)

/-- 'rotuluslaw10.PaneTwice': WHATEVER THE INPUT: true; the input reads as it did. -/
def paneTwiceSpec : ChangeSpec := { name := "paneTwice", fn := fun _ => fun
  | [d1, d2, d3] => { results := [.lit (.bool true)], args := [d1, d2, d3] }
  | _ => none }
def paneTwiceRow : OpenClaim := { program := "ytmcimfmibpfnhaagreat", sum := "e20593bb1efbd572ca6747c44c6a8dbb38085842570fec04481b81988aed36c3", func := "rotulus/rotuluslaw10.PaneTwice", spec := "paneTwice", unfollowed := true, recurses := true, apart := false }
def PaneTwiceSaid : Prop := paneTwiceRow.holds Tryz.pinned (OpenSpec.ofChange paneTwiceSpec)

/-- ITS FALSE NEIGHBOUR: 'it returns false'. Refute it at one input. -/
def paneTwiceWrong : ChangeSpec := { name := "paneTwice", fn := fun _ => fun
  | [d1, d2, d3] => { results := [.lit (.bool false)], args := [d1, d2, d3] }
  | _ => none }
def PaneTwiceWrongFalsely : Prop := paneTwiceRow.holds Tryz.pinned (OpenSpec.ofChange paneTwiceWrong)

/-- 'rotuluslaw10.PaneCursor': WHATEVER THE INPUT: true; the input reads as it did. -/
def paneCursorSpec : ChangeSpec := { name := "paneCursor", fn := fun _ => fun
  | [d1, d2, d3] => { results := [.lit (.bool true)], args := [d1, d2, d3] }
  | _ => none }
def paneCursorRow : OpenClaim := { program := "ytmcimfmibpfnhaagreat", sum := "e20593bb1efbd572ca6747c44c6a8dbb38085842570fec04481b81988aed36c3", func := "rotulus/rotuluslaw10.PaneCursor", spec := "paneCursor", unfollowed := true, recurses := true, apart := false }
def PaneCursorSaid : Prop := paneCursorRow.holds Tryz.pinned (OpenSpec.ofChange paneCursorSpec)

/-- ITS FALSE NEIGHBOUR: 'it returns false'. Refute it at one input. -/
def paneCursorWrong : ChangeSpec := { name := "paneCursor", fn := fun _ => fun
  | [d1, d2, d3] => { results := [.lit (.bool false)], args := [d1, d2, d3] }
  | _ => none }
def PaneCursorWrongFalsely : Prop := paneCursorRow.holds Tryz.pinned (OpenSpec.ofChange paneCursorWrong)

/-- 'rotuluslaw10.PaneTail': WHATEVER THE INPUT: true; the input reads as it did. -/
def paneTailSpec : ChangeSpec := { name := "paneTail", fn := fun _ => fun
  | [d1, d2, d3, d4] => { results := [.lit (.bool true)], args := [d1, d2, d3, d4] }
  | _ => none }
def paneTailRow : OpenClaim := { program := "ytmcimfmibpfnhaagreat", sum := "e20593bb1efbd572ca6747c44c6a8dbb38085842570fec04481b81988aed36c3", func := "rotulus/rotuluslaw10.PaneTail", spec := "paneTail", unfollowed := true, recurses := true, apart := false }
def PaneTailSaid : Prop := paneTailRow.holds Tryz.pinned (OpenSpec.ofChange paneTailSpec)

/-- ITS FALSE NEIGHBOUR: 'it returns false'. Refute it at one input. -/
def paneTailWrong : ChangeSpec := { name := "paneTail", fn := fun _ => fun
  | [d1, d2, d3, d4] => { results := [.lit (.bool false)], args := [d1, d2, d3, d4] }
  | _ => none }
def PaneTailWrongFalsely : Prop := paneTailRow.holds Tryz.pinned (OpenSpec.ofChange paneTailWrong)

/-- 'rotuluslaw10.PaneAll': WHATEVER THE INPUT: true; the input reads as it did. -/
def paneAllSpec : ChangeSpec := { name := "paneAll", fn := fun _ => fun
  | [d1, d2, d3, d4] => { results := [.lit (.bool true)], args := [d1, d2, d3, d4] }
  | _ => none }
def paneAllRow : OpenClaim := { program := "ytmcimfmibpfnhaagreat", sum := "e20593bb1efbd572ca6747c44c6a8dbb38085842570fec04481b81988aed36c3", func := "rotulus/rotuluslaw10.PaneAll", spec := "paneAll", unfollowed := true, recurses := true, apart := false }
def PaneAllSaid : Prop := paneAllRow.holds Tryz.pinned (OpenSpec.ofChange paneAllSpec)

/-- ITS FALSE NEIGHBOUR: 'it returns false'. Refute it at one input. -/
def paneAllWrong : ChangeSpec := { name := "paneAll", fn := fun _ => fun
  | [d1, d2, d3, d4] => { results := [.lit (.bool false)], args := [d1, d2, d3, d4] }
  | _ => none }
def PaneAllWrongFalsely : Prop := paneAllRow.holds Tryz.pinned (OpenSpec.ofChange paneAllWrong)

/-- 'rotuluslaw10.PaneNone': WHATEVER THE INPUT: true; the input reads as it did. -/
def paneNoneSpec : ChangeSpec := { name := "paneNone", fn := fun _ => fun
  | [] => { results := [.lit (.bool true)], args := [] }
  | _ => none }
def paneNoneRow : OpenClaim := { program := "ytmcimfmibpfnhaagreat", sum := "e20593bb1efbd572ca6747c44c6a8dbb38085842570fec04481b81988aed36c3", func := "rotulus/rotuluslaw10.PaneNone", spec := "paneNone", unfollowed := true, recurses := true, apart := false }
def PaneNoneSaid : Prop := paneNoneRow.holds Tryz.pinned (OpenSpec.ofChange paneNoneSpec)

/-- ITS FALSE NEIGHBOUR: 'it returns false'. Refute it at one input. -/
def paneNoneWrong : ChangeSpec := { name := "paneNone", fn := fun _ => fun
  | [] => { results := [.lit (.bool false)], args := [] }
  | _ => none }
def PaneNoneWrongFalsely : Prop := paneNoneRow.holds Tryz.pinned (OpenSpec.ofChange paneNoneWrong)

/- THE SECOND FORM. 'bulk': how many values and letters a reading holds, each counted each time it is reached (what is shared counts as often as it is met; a slice's spare places count too). A statement '..UptoSaid' is the law's where the arguments, and the package variables that the reading takes, are together of bulk at most 1048576: NARROWER than '..Said'. Prove '..Said' where nothing that the law and all that it calls make is longer than what came in: it says more and counts as full. Else prove '..UptoSaid'. A law counts once. -/
mutual
def uptoBulk {H : Type} : DataW H → Nat
  | .lit (.string bytes) => bytes.length + 1
  | .lit _ => 1
  | .nil => 1
  | .ptr d => uptoBulk d + 1
  | .slice elems spare => uptoBulkAll elems + uptoBulkAll spare + 1
  | .agg parts => uptoBulkAll parts + 1
  | .iface _ d => uptoBulk d + 1
  | .map entries => uptoBulkEntries entries + 1
  | .held _ => 1
def uptoBulkAll {H : Type} : List (DataW H) → Nat
  | [] => 0
  | d :: r => uptoBulk d + uptoBulkAll r
def uptoBulkEntries {H : Type} : List (Lit × DataW H) → Nat
  | [] => 0
  | x :: r => uptoBulkEntry x + uptoBulkEntries r
def uptoBulkEntry {H : Type} : Lit × DataW H → Nat
  | (.string bytes, d) => bytes.length + uptoBulk d + 1
  | (_, d) => uptoBulk d + 1
 end
def uptoSmall : (H : Type) → List (DataW H) → Bool := fun _ ds => decide (uptoBulkAll ds ≤ 1048576)
def OpenSpec.upto (s : _root_.Go.ChangeSpec) : _root_.Go.OpenSpec := { _root_.Go.OpenSpec.ofChange s with cond := some uptoSmall }

/-- 'rotuluslaw10.LineAll', WHERE WHAT IT READS IS OF BULK AT MOST 1048576: true; the input reads as it did. -/
def lineAllUptoRow : OpenClaim := { program := "ytmcimfmibpfnhaagreat", sum := "e20593bb1efbd572ca6747c44c6a8dbb38085842570fec04481b81988aed36c3", func := "rotulus/rotuluslaw10.LineAll", spec := "lineAll", unfollowed := true, recurses := true, apart := false, narrowed := true }
def LineAllUptoSaid : Prop := lineAllUptoRow.holds Tryz.pinned (OpenSpec.upto lineAllSpec)

/-- 'rotuluslaw10.LineEach', WHERE WHAT IT READS IS OF BULK AT MOST 1048576: true; the input reads as it did. -/
def lineEachUptoRow : OpenClaim := { program := "ytmcimfmibpfnhaagreat", sum := "e20593bb1efbd572ca6747c44c6a8dbb38085842570fec04481b81988aed36c3", func := "rotulus/rotuluslaw10.LineEach", spec := "lineEach", unfollowed := true, recurses := true, apart := false, narrowed := true }
def LineEachUptoSaid : Prop := lineEachUptoRow.holds Tryz.pinned (OpenSpec.upto lineEachSpec)

/-- 'rotuluslaw10.LineBack', WHERE WHAT IT READS IS OF BULK AT MOST 1048576: true; the input reads as it did. -/
def lineBackUptoRow : OpenClaim := { program := "ytmcimfmibpfnhaagreat", sum := "e20593bb1efbd572ca6747c44c6a8dbb38085842570fec04481b81988aed36c3", func := "rotulus/rotuluslaw10.LineBack", spec := "lineBack", unfollowed := true, recurses := true, apart := false, narrowed := true }
def LineBackUptoSaid : Prop := lineBackUptoRow.holds Tryz.pinned (OpenSpec.upto lineBackSpec)

/-- 'rotuluslaw10.LinePlaces', WHERE WHAT IT READS IS OF BULK AT MOST 1048576: true; the input reads as it did. -/
def linePlacesUptoRow : OpenClaim := { program := "ytmcimfmibpfnhaagreat", sum := "e20593bb1efbd572ca6747c44c6a8dbb38085842570fec04481b81988aed36c3", func := "rotulus/rotuluslaw10.LinePlaces", spec := "linePlaces", unfollowed := true, recurses := true, apart := false, narrowed := true }
def LinePlacesUptoSaid : Prop := linePlacesUptoRow.holds Tryz.pinned (OpenSpec.upto linePlacesSpec)

/-- 'rotuluslaw10.ReflowAll', WHERE WHAT IT READS IS OF BULK AT MOST 1048576: true; the input reads as it did. -/
def reflowAllUptoRow : OpenClaim := { program := "ytmcimfmibpfnhaagreat", sum := "e20593bb1efbd572ca6747c44c6a8dbb38085842570fec04481b81988aed36c3", func := "rotulus/rotuluslaw10.ReflowAll", spec := "reflowAll", unfollowed := true, recurses := true, apart := false, narrowed := true }
def ReflowAllUptoSaid : Prop := reflowAllUptoRow.holds Tryz.pinned (OpenSpec.upto reflowAllSpec)

/-- 'rotuluslaw10.ReflowBack', WHERE WHAT IT READS IS OF BULK AT MOST 1048576: true; the input reads as it did. -/
def reflowBackUptoRow : OpenClaim := { program := "ytmcimfmibpfnhaagreat", sum := "e20593bb1efbd572ca6747c44c6a8dbb38085842570fec04481b81988aed36c3", func := "rotulus/rotuluslaw10.ReflowBack", spec := "reflowBack", unfollowed := true, recurses := true, apart := false, narrowed := true }
def ReflowBackUptoSaid : Prop := reflowBackUptoRow.holds Tryz.pinned (OpenSpec.upto reflowBackSpec)

/-- 'rotuluslaw10.ReflowMarks', WHERE WHAT IT READS IS OF BULK AT MOST 1048576: true; the input reads as it did. -/
def reflowMarksUptoRow : OpenClaim := { program := "ytmcimfmibpfnhaagreat", sum := "e20593bb1efbd572ca6747c44c6a8dbb38085842570fec04481b81988aed36c3", func := "rotulus/rotuluslaw10.ReflowMarks", spec := "reflowMarks", unfollowed := true, recurses := true, apart := false, narrowed := true }
def ReflowMarksUptoSaid : Prop := reflowMarksUptoRow.holds Tryz.pinned (OpenSpec.upto reflowMarksSpec)

/-- 'rotuluslaw10.PaneParts', WHERE WHAT IT READS IS OF BULK AT MOST 1048576: true; the input reads as it did. -/
def panePartsUptoRow : OpenClaim := { program := "ytmcimfmibpfnhaagreat", sum := "e20593bb1efbd572ca6747c44c6a8dbb38085842570fec04481b81988aed36c3", func := "rotulus/rotuluslaw10.PaneParts", spec := "paneParts", unfollowed := true, recurses := true, apart := false, narrowed := true }
def PanePartsUptoSaid : Prop := panePartsUptoRow.holds Tryz.pinned (OpenSpec.upto panePartsSpec)

/-- 'rotuluslaw10.PaneLimit', WHERE WHAT IT READS IS OF BULK AT MOST 1048576: true; the input reads as it did. -/
def paneLimitUptoRow : OpenClaim := { program := "ytmcimfmibpfnhaagreat", sum := "e20593bb1efbd572ca6747c44c6a8dbb38085842570fec04481b81988aed36c3", func := "rotulus/rotuluslaw10.PaneLimit", spec := "paneLimit", unfollowed := true, recurses := true, apart := false, narrowed := true }
def PaneLimitUptoSaid : Prop := paneLimitUptoRow.holds Tryz.pinned (OpenSpec.upto paneLimitSpec)

/-- 'rotuluslaw10.LineRows', WHERE WHAT IT READS IS OF BULK AT MOST 1048576: true; the input reads as it did. -/
def lineRowsUptoRow : OpenClaim := { program := "ytmcimfmibpfnhaagreat", sum := "e20593bb1efbd572ca6747c44c6a8dbb38085842570fec04481b81988aed36c3", func := "rotulus/rotuluslaw10.LineRows", spec := "lineRows", unfollowed := true, recurses := true, apart := false, narrowed := true }
def LineRowsUptoSaid : Prop := lineRowsUptoRow.holds Tryz.pinned (OpenSpec.upto lineRowsSpec)

/-- 'rotuluslaw10.LineJoin', WHERE WHAT IT READS IS OF BULK AT MOST 1048576: true; the input reads as it did. -/
def lineJoinUptoRow : OpenClaim := { program := "ytmcimfmibpfnhaagreat", sum := "e20593bb1efbd572ca6747c44c6a8dbb38085842570fec04481b81988aed36c3", func := "rotulus/rotuluslaw10.LineJoin", spec := "lineJoin", unfollowed := true, recurses := true, apart := false, narrowed := true }
def LineJoinUptoSaid : Prop := lineJoinUptoRow.holds Tryz.pinned (OpenSpec.upto lineJoinSpec)

/-- 'rotuluslaw10.LineEnds', WHERE WHAT IT READS IS OF BULK AT MOST 1048576: true; the input reads as it did. -/
def lineEndsUptoRow : OpenClaim := { program := "ytmcimfmibpfnhaagreat", sum := "e20593bb1efbd572ca6747c44c6a8dbb38085842570fec04481b81988aed36c3", func := "rotulus/rotuluslaw10.LineEnds", spec := "lineEnds", unfollowed := true, recurses := true, apart := false, narrowed := true }
def LineEndsUptoSaid : Prop := lineEndsUptoRow.holds Tryz.pinned (OpenSpec.upto lineEndsSpec)

/-- 'rotuluslaw10.ReflowSame', WHERE WHAT IT READS IS OF BULK AT MOST 1048576: true; the input reads as it did. -/
def reflowSameUptoRow : OpenClaim := { program := "ytmcimfmibpfnhaagreat", sum := "e20593bb1efbd572ca6747c44c6a8dbb38085842570fec04481b81988aed36c3", func := "rotulus/rotuluslaw10.ReflowSame", spec := "reflowSame", unfollowed := true, recurses := true, apart := false, narrowed := true }
def ReflowSameUptoSaid : Prop := reflowSameUptoRow.holds Tryz.pinned (OpenSpec.upto reflowSameSpec)

/-- 'rotuluslaw10.ReflowOne', WHERE WHAT IT READS IS OF BULK AT MOST 1048576: true; the input reads as it did. -/
def reflowOneUptoRow : OpenClaim := { program := "ytmcimfmibpfnhaagreat", sum := "e20593bb1efbd572ca6747c44c6a8dbb38085842570fec04481b81988aed36c3", func := "rotulus/rotuluslaw10.ReflowOne", spec := "reflowOne", unfollowed := true, recurses := true, apart := false, narrowed := true }
def ReflowOneUptoSaid : Prop := reflowOneUptoRow.holds Tryz.pinned (OpenSpec.upto reflowOneSpec)

/-- 'rotuluslaw10.PaneTwice', WHERE WHAT IT READS IS OF BULK AT MOST 1048576: true; the input reads as it did. -/
def paneTwiceUptoRow : OpenClaim := { program := "ytmcimfmibpfnhaagreat", sum := "e20593bb1efbd572ca6747c44c6a8dbb38085842570fec04481b81988aed36c3", func := "rotulus/rotuluslaw10.PaneTwice", spec := "paneTwice", unfollowed := true, recurses := true, apart := false, narrowed := true }
def PaneTwiceUptoSaid : Prop := paneTwiceUptoRow.holds Tryz.pinned (OpenSpec.upto paneTwiceSpec)

/-- 'rotuluslaw10.PaneCursor', WHERE WHAT IT READS IS OF BULK AT MOST 1048576: true; the input reads as it did. -/
def paneCursorUptoRow : OpenClaim := { program := "ytmcimfmibpfnhaagreat", sum := "e20593bb1efbd572ca6747c44c6a8dbb38085842570fec04481b81988aed36c3", func := "rotulus/rotuluslaw10.PaneCursor", spec := "paneCursor", unfollowed := true, recurses := true, apart := false, narrowed := true }
def PaneCursorUptoSaid : Prop := paneCursorUptoRow.holds Tryz.pinned (OpenSpec.upto paneCursorSpec)

/-- 'rotuluslaw10.PaneTail', WHERE WHAT IT READS IS OF BULK AT MOST 1048576: true; the input reads as it did. -/
def paneTailUptoRow : OpenClaim := { program := "ytmcimfmibpfnhaagreat", sum := "e20593bb1efbd572ca6747c44c6a8dbb38085842570fec04481b81988aed36c3", func := "rotulus/rotuluslaw10.PaneTail", spec := "paneTail", unfollowed := true, recurses := true, apart := false, narrowed := true }
def PaneTailUptoSaid : Prop := paneTailUptoRow.holds Tryz.pinned (OpenSpec.upto paneTailSpec)

/-- 'rotuluslaw10.PaneAll', WHERE WHAT IT READS IS OF BULK AT MOST 1048576: true; the input reads as it did. -/
def paneAllUptoRow : OpenClaim := { program := "ytmcimfmibpfnhaagreat", sum := "e20593bb1efbd572ca6747c44c6a8dbb38085842570fec04481b81988aed36c3", func := "rotulus/rotuluslaw10.PaneAll", spec := "paneAll", unfollowed := true, recurses := true, apart := false, narrowed := true }
def PaneAllUptoSaid : Prop := paneAllUptoRow.holds Tryz.pinned (OpenSpec.upto paneAllSpec)

/-- 'rotuluslaw10.PaneNone', WHERE WHAT IT READS IS OF BULK AT MOST 1048576: true; the input reads as it did. -/
def paneNoneUptoRow : OpenClaim := { program := "ytmcimfmibpfnhaagreat", sum := "e20593bb1efbd572ca6747c44c6a8dbb38085842570fec04481b81988aed36c3", func := "rotulus/rotuluslaw10.PaneNone", spec := "paneNone", unfollowed := true, recurses := true, apart := false, narrowed := true }
def PaneNoneUptoSaid : Prop := paneNoneUptoRow.holds Tryz.pinned (OpenSpec.upto paneNoneSpec)

end Rows
end Go.Proofs.YtmcimfmibpfnhaaGreat
