/-
  No cell of these rows narrows 'for every input' (looked for: loops, veiled, ifaces, maps, wideKeys, modest, calm, conditions, laid).
  DERIVED. THE GIVEN ROWS OF THIS SEAT. 11 by the template 'for every input the law returns true; each argument reads behind the call as it read before'; 0 by the template 'total and deterministic' (their statements: YtoeemmlfcnokiaaGreatTotals.lean).
  GIVEN WITH THE SEED: the statements are not yours to turn. If you find one false, say at which input.
  Laid BY PROGRAM, IN A SANDBOX (cutbox-rows.mjs): the forced cells as the released guide's own fill.sh prints them over the translation 7d7a9e4f89ba093d… (all of the seat's roots in one cut). By AI agents, Wed Nov 11 2026. No macro, syntax, notation, axiom, sorry.
-/
import Derived.Test.YtoeemmlfcnokiaaGreatChecked
import GoSem.Claim
import GoSem.ClaimJoined
import GoSem.ClaimMapViews
import Derived.JoinedTies
import Derived.KernelRfl
namespace Go.Proofs.YtoeemmlfcnokiaaGreat
/- THE CELL 'sum', in the pinned program and in every row, IS THE sha256 OF THE DUMP (.gsa) THAT YtoeemmlfcnokiaaGreatProg.lean LOADS. Nothing in Lean hashes anything: it is a label: what it is worth is what the hold of that sum in a sandbox is worth. -/
noncomputable def Tryz.pinned : Pinned := { name := "ytoeemmlfcnokiaagreat", sum := "7d7a9e4f89ba093dea1efca7cbef27a62815c11023c97311d0e7dd2c64cd7b78", checked := Tryz.checked }
namespace Rows
def none {H : Type} : Left H := { results := [], args := [] }

/-- 'rotuluslaw7.EscAll': WHATEVER THE INPUT: true; the input reads as it did. -/
def escAllSpec : ChangeSpec := { name := "escAll", fn := fun _ => fun
  | [d] => { results := [.lit (.bool true)], args := [d] }
  | _ => none }
def escAllRow : OpenClaim := { program := "ytoeemmlfcnokiaagreat", sum := "7d7a9e4f89ba093dea1efca7cbef27a62815c11023c97311d0e7dd2c64cd7b78", func := "rotulus/rotuluslaw7.EscAll", spec := "escAll", unfollowed := true, recurses := true, apart := false }
def EscAllSaid : Prop := escAllRow.holds Tryz.pinned (OpenSpec.ofChange escAllSpec)

/-- ITS FALSE NEIGHBOUR: 'it returns false'. Refute it at one input. -/
def escAllWrong : ChangeSpec := { name := "escAll", fn := fun _ => fun
  | [d] => { results := [.lit (.bool false)], args := [d] }
  | _ => none }
def EscAllWrongFalsely : Prop := escAllRow.holds Tryz.pinned (OpenSpec.ofChange escAllWrong)

/-- 'rotuluslaw7.EscText': WHATEVER THE INPUT: true; the input reads as it did. -/
def escTextSpec : ChangeSpec := { name := "escText", fn := fun _ => fun
  | [d] => { results := [.lit (.bool true)], args := [d] }
  | _ => none }
def escTextRow : OpenClaim := { program := "ytoeemmlfcnokiaagreat", sum := "7d7a9e4f89ba093dea1efca7cbef27a62815c11023c97311d0e7dd2c64cd7b78", func := "rotulus/rotuluslaw7.EscText", spec := "escText", unfollowed := true, recurses := true, apart := false }
def EscTextSaid : Prop := escTextRow.holds Tryz.pinned (OpenSpec.ofChange escTextSpec)

/-- ITS FALSE NEIGHBOUR: 'it returns false'. Refute it at one input. -/
def escTextWrong : ChangeSpec := { name := "escText", fn := fun _ => fun
  | [d] => { results := [.lit (.bool false)], args := [d] }
  | _ => none }
def EscTextWrongFalsely : Prop := escTextRow.holds Tryz.pinned (OpenSpec.ofChange escTextWrong)

/-- 'rotuluslaw7.RowAll': WHATEVER THE INPUT: true; the input reads as it did. -/
def rowAllSpec : ChangeSpec := { name := "rowAll", fn := fun _ => fun
  | [d1, d2, d3, d4, d5, d6] => { results := [.lit (.bool true)], args := [d1, d2, d3, d4, d5, d6] }
  | _ => none }
def rowAllRow : OpenClaim := { program := "ytoeemmlfcnokiaagreat", sum := "7d7a9e4f89ba093dea1efca7cbef27a62815c11023c97311d0e7dd2c64cd7b78", func := "rotulus/rotuluslaw7.RowAll", spec := "rowAll", unfollowed := true, recurses := true, apart := false }
def RowAllSaid : Prop := rowAllRow.holds Tryz.pinned (OpenSpec.ofChange rowAllSpec)

/-- ITS FALSE NEIGHBOUR: 'it returns false'. Refute it at one input. -/
def rowAllWrong : ChangeSpec := { name := "rowAll", fn := fun _ => fun
  | [d1, d2, d3, d4, d5, d6] => { results := [.lit (.bool false)], args := [d1, d2, d3, d4, d5, d6] }
  | _ => none }
def RowAllWrongFalsely : Prop := rowAllRow.holds Tryz.pinned (OpenSpec.ofChange rowAllWrong)

/-- 'rotuluslaw7.RowOwn': WHATEVER THE INPUT: true; the input reads as it did. -/
def rowOwnSpec : ChangeSpec := { name := "rowOwn", fn := fun _ => fun
  | [d1, d2, d3] => { results := [.lit (.bool true)], args := [d1, d2, d3] }
  | _ => none }
def rowOwnRow : OpenClaim := { program := "ytoeemmlfcnokiaagreat", sum := "7d7a9e4f89ba093dea1efca7cbef27a62815c11023c97311d0e7dd2c64cd7b78", func := "rotulus/rotuluslaw7.RowOwn", spec := "rowOwn", unfollowed := true, recurses := true, apart := false }
def RowOwnSaid : Prop := rowOwnRow.holds Tryz.pinned (OpenSpec.ofChange rowOwnSpec)

/-- ITS FALSE NEIGHBOUR: 'it returns false'. Refute it at one input. -/
def rowOwnWrong : ChangeSpec := { name := "rowOwn", fn := fun _ => fun
  | [d1, d2, d3] => { results := [.lit (.bool false)], args := [d1, d2, d3] }
  | _ => none }
def RowOwnWrongFalsely : Prop := rowOwnRow.holds Tryz.pinned (OpenSpec.ofChange rowOwnWrong)

/-- 'rotuluslaw7.RowSpan': WHATEVER THE INPUT: true; the input reads as it did. -/
def rowSpanSpec : ChangeSpec := { name := "rowSpan", fn := fun _ => fun
  | [d1, d2, d3] => { results := [.lit (.bool true)], args := [d1, d2, d3] }
  | _ => none }
def rowSpanRow : OpenClaim := { program := "ytoeemmlfcnokiaagreat", sum := "7d7a9e4f89ba093dea1efca7cbef27a62815c11023c97311d0e7dd2c64cd7b78", func := "rotulus/rotuluslaw7.RowSpan", spec := "rowSpan", unfollowed := true, recurses := true, apart := false }
def RowSpanSaid : Prop := rowSpanRow.holds Tryz.pinned (OpenSpec.ofChange rowSpanSpec)

/-- ITS FALSE NEIGHBOUR: 'it returns false'. Refute it at one input. -/
def rowSpanWrong : ChangeSpec := { name := "rowSpan", fn := fun _ => fun
  | [d1, d2, d3] => { results := [.lit (.bool false)], args := [d1, d2, d3] }
  | _ => none }
def RowSpanWrongFalsely : Prop := rowSpanRow.holds Tryz.pinned (OpenSpec.ofChange rowSpanWrong)

/-- 'rotuluslaw7.ScreenHome': WHATEVER THE INPUT: true; the input reads as it did. -/
def screenHomeSpec : ChangeSpec := { name := "screenHome", fn := fun _ => fun
  | [d] => { results := [.lit (.bool true)], args := [d] }
  | _ => none }
def screenHomeRow : OpenClaim := { program := "ytoeemmlfcnokiaagreat", sum := "7d7a9e4f89ba093dea1efca7cbef27a62815c11023c97311d0e7dd2c64cd7b78", func := "rotulus/rotuluslaw7.ScreenHome", spec := "screenHome", unfollowed := true, recurses := true, apart := false }
def ScreenHomeSaid : Prop := screenHomeRow.holds Tryz.pinned (OpenSpec.ofChange screenHomeSpec)

/-- ITS FALSE NEIGHBOUR: 'it returns false'. Refute it at one input. -/
def screenHomeWrong : ChangeSpec := { name := "screenHome", fn := fun _ => fun
  | [d] => { results := [.lit (.bool false)], args := [d] }
  | _ => none }
def ScreenHomeWrongFalsely : Prop := screenHomeRow.holds Tryz.pinned (OpenSpec.ofChange screenHomeWrong)

/-- 'rotuluslaw7.ScreenMoves': WHATEVER THE INPUT: true; the input reads as it did. -/
def screenMovesSpec : ChangeSpec := { name := "screenMoves", fn := fun _ => fun
  | [d1, d2] => { results := [.lit (.bool true)], args := [d1, d2] }
  | _ => none }
def screenMovesRow : OpenClaim := { program := "ytoeemmlfcnokiaagreat", sum := "7d7a9e4f89ba093dea1efca7cbef27a62815c11023c97311d0e7dd2c64cd7b78", func := "rotulus/rotuluslaw7.ScreenMoves", spec := "screenMoves", unfollowed := true, recurses := true, apart := false }
def ScreenMovesSaid : Prop := screenMovesRow.holds Tryz.pinned (OpenSpec.ofChange screenMovesSpec)

/-- ITS FALSE NEIGHBOUR: 'it returns false'. Refute it at one input. -/
def screenMovesWrong : ChangeSpec := { name := "screenMoves", fn := fun _ => fun
  | [d1, d2] => { results := [.lit (.bool false)], args := [d1, d2] }
  | _ => none }
def ScreenMovesWrongFalsely : Prop := screenMovesRow.holds Tryz.pinned (OpenSpec.ofChange screenMovesWrong)

/-- 'rotuluslaw7.ScreenErase': WHATEVER THE INPUT: true; the input reads as it did. -/
def screenEraseSpec : ChangeSpec := { name := "screenErase", fn := fun _ => fun
  | [d1, d2] => { results := [.lit (.bool true)], args := [d1, d2] }
  | _ => none }
def screenEraseRow : OpenClaim := { program := "ytoeemmlfcnokiaagreat", sum := "7d7a9e4f89ba093dea1efca7cbef27a62815c11023c97311d0e7dd2c64cd7b78", func := "rotulus/rotuluslaw7.ScreenErase", spec := "screenErase", unfollowed := true, recurses := true, apart := false }
def ScreenEraseSaid : Prop := screenEraseRow.holds Tryz.pinned (OpenSpec.ofChange screenEraseSpec)

/-- ITS FALSE NEIGHBOUR: 'it returns false'. Refute it at one input. -/
def screenEraseWrong : ChangeSpec := { name := "screenErase", fn := fun _ => fun
  | [d1, d2] => { results := [.lit (.bool false)], args := [d1, d2] }
  | _ => none }
def ScreenEraseWrongFalsely : Prop := screenEraseRow.holds Tryz.pinned (OpenSpec.ofChange screenEraseWrong)

/-- 'rotuluslaw7.ScreenMay': WHATEVER THE INPUT: true; the input reads as it did. -/
def screenMaySpec : ChangeSpec := { name := "screenMay", fn := fun _ => fun
  | [d1, d2, d3] => { results := [.lit (.bool true)], args := [d1, d2, d3] }
  | _ => none }
def screenMayRow : OpenClaim := { program := "ytoeemmlfcnokiaagreat", sum := "7d7a9e4f89ba093dea1efca7cbef27a62815c11023c97311d0e7dd2c64cd7b78", func := "rotulus/rotuluslaw7.ScreenMay", spec := "screenMay", unfollowed := true, recurses := true, apart := false }
def ScreenMaySaid : Prop := screenMayRow.holds Tryz.pinned (OpenSpec.ofChange screenMaySpec)

/-- ITS FALSE NEIGHBOUR: 'it returns false'. Refute it at one input. -/
def screenMayWrong : ChangeSpec := { name := "screenMay", fn := fun _ => fun
  | [d1, d2, d3] => { results := [.lit (.bool false)], args := [d1, d2, d3] }
  | _ => none }
def ScreenMayWrongFalsely : Prop := screenMayRow.holds Tryz.pinned (OpenSpec.ofChange screenMayWrong)

/-- 'rotuluslaw7.ScreenAll': WHATEVER THE INPUT: true; the input reads as it did. -/
def screenAllSpec : ChangeSpec := { name := "screenAll", fn := fun _ => fun
  | [d1, d2, d3] => { results := [.lit (.bool true)], args := [d1, d2, d3] }
  | _ => none }
def screenAllRow : OpenClaim := { program := "ytoeemmlfcnokiaagreat", sum := "7d7a9e4f89ba093dea1efca7cbef27a62815c11023c97311d0e7dd2c64cd7b78", func := "rotulus/rotuluslaw7.ScreenAll", spec := "screenAll", unfollowed := true, recurses := true, apart := false }
def ScreenAllSaid : Prop := screenAllRow.holds Tryz.pinned (OpenSpec.ofChange screenAllSpec)

/-- ITS FALSE NEIGHBOUR: 'it returns false'. Refute it at one input. -/
def screenAllWrong : ChangeSpec := { name := "screenAll", fn := fun _ => fun
  | [d1, d2, d3] => { results := [.lit (.bool false)], args := [d1, d2, d3] }
  | _ => none }
def ScreenAllWrongFalsely : Prop := screenAllRow.holds Tryz.pinned (OpenSpec.ofChange screenAllWrong)

/-- 'rotuluslaw7.ScreenOf': WHATEVER THE INPUT: true; the input reads as it did. -/
def screenOfSpec : ChangeSpec := { name := "screenOf", fn := fun _ => fun
  | [d1, d2, d3, d4, d5, d6] => { results := [.lit (.bool true)], args := [d1, d2, d3, d4, d5, d6] }
  | _ => none }
def screenOfRow : OpenClaim := { program := "ytoeemmlfcnokiaagreat", sum := "7d7a9e4f89ba093dea1efca7cbef27a62815c11023c97311d0e7dd2c64cd7b78", func := "rotulus/rotuluslaw7.ScreenOf", spec := "screenOf", unfollowed := true, recurses := true, apart := false }
def ScreenOfSaid : Prop := screenOfRow.holds Tryz.pinned (OpenSpec.ofChange screenOfSpec)

/-- ITS FALSE NEIGHBOUR: 'it returns false'. Refute it at one input. -/
def screenOfWrong : ChangeSpec := { name := "screenOf", fn := fun _ => fun
  | [d1, d2, d3, d4, d5, d6] => { results := [.lit (.bool false)], args := [d1, d2, d3, d4, d5, d6] }
  | _ => none }
def ScreenOfWrongFalsely : Prop := screenOfRow.holds Tryz.pinned (OpenSpec.ofChange screenOfWrong)

/- THE SECOND FORM. 'bulk': how many values and letters a reading holds, each counted each time it is reached (what is shared counts as often as it is met; a slice's spare places count too). A statement '..UptoSaid' is the law's where the arguments, and the package variables that the reading takes, are together of bulk at most 1048576: NARROWER than '..Said'. Prove '..Said' where nothing that the law and all that it calls make is longer than what came in: it says more and counts as full. Else prove '..UptoSaid'. A law counts once. -/
mutual
def uptoBulk {H : Type} : DataW H → Nat
  | .lit (.string bytes) => bytes.length + 1
  | .lit _ => 1
  | .nil => 1
  | .ptr d => uptoBulk d + 1
  | .slice elems spare => uptoBulkAll elems + uptoBulkAll spare + 1
  | .agg parts => uptoBulkAll parts + 1
  | .iface _ d => uptoBulk d + 1
  | .map entries => uptoBulkEntries entries + 1
  | .held _ => 1
def uptoBulkAll {H : Type} : List (DataW H) → Nat
  | [] => 0
  | d :: r => uptoBulk d + uptoBulkAll r
def uptoBulkEntries {H : Type} : List (Lit × DataW H) → Nat
  | [] => 0
  | x :: r => uptoBulkEntry x + uptoBulkEntries r
def uptoBulkEntry {H : Type} : Lit × DataW H → Nat
  | (.string bytes, d) => bytes.length + uptoBulk d + 1
  | (_, d) => uptoBulk d + 1
 end
def uptoSmall : (H : Type) → List (DataW H) → Bool := fun _ ds => decide (uptoBulkAll ds ≤ 1048576)
def OpenSpec.upto (s : _root_.Go.ChangeSpec) : _root_.Go.OpenSpec := { _root_.Go.OpenSpec.ofChange s with cond := some uptoSmall }

/-- 'rotuluslaw7.EscAll', WHERE WHAT IT READS IS OF BULK AT MOST 1048576: true; the input reads as it did. -/
def escAllUptoRow : OpenClaim := { program := "ytoeemmlfcnokiaagreat", sum := "7d7a9e4f89ba093dea1efca7cbef27a62815c11023c97311d0e7dd2c64cd7b78", func := "rotulus/rotuluslaw7.EscAll", spec := "escAll", unfollowed := true, recurses := true, apart := false, narrowed := true }
def EscAllUptoSaid : Prop := escAllUptoRow.holds Tryz.pinned (OpenSpec.upto escAllSpec)

/-- 'rotuluslaw7.EscText', WHERE WHAT IT READS IS OF BULK AT MOST 1048576: true; the input reads as it did. -/
def escTextUptoRow : OpenClaim := { program := "ytoeemmlfcnokiaagreat", sum := "7d7a9e4f89ba093dea1efca7cbef27a62815c11023c97311d0e7dd2c64cd7b78", func := "rotulus/rotuluslaw7.EscText", spec := "escText", unfollowed := true, recurses := true, apart := false, narrowed := true }
def EscTextUptoSaid : Prop := escTextUptoRow.holds Tryz.pinned (OpenSpec.upto escTextSpec)

/-- 'rotuluslaw7.RowAll', WHERE WHAT IT READS IS OF BULK AT MOST 1048576: true; the input reads as it did. -/
def rowAllUptoRow : OpenClaim := { program := "ytoeemmlfcnokiaagreat", sum := "7d7a9e4f89ba093dea1efca7cbef27a62815c11023c97311d0e7dd2c64cd7b78", func := "rotulus/rotuluslaw7.RowAll", spec := "rowAll", unfollowed := true, recurses := true, apart := false, narrowed := true }
def RowAllUptoSaid : Prop := rowAllUptoRow.holds Tryz.pinned (OpenSpec.upto rowAllSpec)

/-- 'rotuluslaw7.RowOwn', WHERE WHAT IT READS IS OF BULK AT MOST 1048576: true; the input reads as it did. -/
def rowOwnUptoRow : OpenClaim := { program := "ytoeemmlfcnokiaagreat", sum := "7d7a9e4f89ba093dea1efca7cbef27a62815c11023c97311d0e7dd2c64cd7b78", func := "rotulus/rotuluslaw7.RowOwn", spec := "rowOwn", unfollowed := true, recurses := true, apart := false, narrowed := true }
def RowOwnUptoSaid : Prop := rowOwnUptoRow.holds Tryz.pinned (OpenSpec.upto rowOwnSpec)

/-- 'rotuluslaw7.RowSpan', WHERE WHAT IT READS IS OF BULK AT MOST 1048576: true; the input reads as it did. -/
def rowSpanUptoRow : OpenClaim := { program := "ytoeemmlfcnokiaagreat", sum := "7d7a9e4f89ba093dea1efca7cbef27a62815c11023c97311d0e7dd2c64cd7b78", func := "rotulus/rotuluslaw7.RowSpan", spec := "rowSpan", unfollowed := true, recurses := true, apart := false, narrowed := true }
def RowSpanUptoSaid : Prop := rowSpanUptoRow.holds Tryz.pinned (OpenSpec.upto rowSpanSpec)

/-- 'rotuluslaw7.ScreenHome', WHERE WHAT IT READS IS OF BULK AT MOST 1048576: true; the input reads as it did. -/
def screenHomeUptoRow : OpenClaim := { program := "ytoeemmlfcnokiaagreat", sum := "7d7a9e4f89ba093dea1efca7cbef27a62815c11023c97311d0e7dd2c64cd7b78", func := "rotulus/rotuluslaw7.ScreenHome", spec := "screenHome", unfollowed := true, recurses := true, apart := false, narrowed := true }
def ScreenHomeUptoSaid : Prop := screenHomeUptoRow.holds Tryz.pinned (OpenSpec.upto screenHomeSpec)

/-- 'rotuluslaw7.ScreenMoves', WHERE WHAT IT READS IS OF BULK AT MOST 1048576: true; the input reads as it did. -/
def screenMovesUptoRow : OpenClaim := { program := "ytoeemmlfcnokiaagreat", sum := "7d7a9e4f89ba093dea1efca7cbef27a62815c11023c97311d0e7dd2c64cd7b78", func := "rotulus/rotuluslaw7.ScreenMoves", spec := "screenMoves", unfollowed := true, recurses := true, apart := false, narrowed := true }
def ScreenMovesUptoSaid : Prop := screenMovesUptoRow.holds Tryz.pinned (OpenSpec.upto screenMovesSpec)

/-- 'rotuluslaw7.ScreenErase', WHERE WHAT IT READS IS OF BULK AT MOST 1048576: true; the input reads as it did. -/
def screenEraseUptoRow : OpenClaim := { program := "ytoeemmlfcnokiaagreat", sum := "7d7a9e4f89ba093dea1efca7cbef27a62815c11023c97311d0e7dd2c64cd7b78", func := "rotulus/rotuluslaw7.ScreenErase", spec := "screenErase", unfollowed := true, recurses := true, apart := false, narrowed := true }
def ScreenEraseUptoSaid : Prop := screenEraseUptoRow.holds Tryz.pinned (OpenSpec.upto screenEraseSpec)

/-- 'rotuluslaw7.ScreenMay', WHERE WHAT IT READS IS OF BULK AT MOST 1048576: true; the input reads as it did. -/
def screenMayUptoRow : OpenClaim := { program := "ytoeemmlfcnokiaagreat", sum := "7d7a9e4f89ba093dea1efca7cbef27a62815c11023c97311d0e7dd2c64cd7b78", func := "rotulus/rotuluslaw7.ScreenMay", spec := "screenMay", unfollowed := true, recurses := true, apart := false, narrowed := true }
def ScreenMayUptoSaid : Prop := screenMayUptoRow.holds Tryz.pinned (OpenSpec.upto screenMaySpec)

/-- 'rotuluslaw7.ScreenAll', WHERE WHAT IT READS IS OF BULK AT MOST 1048576: true; the input reads as it did. -/
def screenAllUptoRow : OpenClaim := { program := "ytoeemmlfcnokiaagreat", sum := "7d7a9e4f89ba093dea1efca7cbef27a62815c11023c97311d0e7dd2c64cd7b78", func := "rotulus/rotuluslaw7.ScreenAll", spec := "screenAll", unfollowed := true, recurses := true, apart := false, narrowed := true }
def ScreenAllUptoSaid : Prop := screenAllUptoRow.holds Tryz.pinned (OpenSpec.upto screenAllSpec)

/-- 'rotuluslaw7.ScreenOf', WHERE WHAT IT READS IS OF BULK AT MOST 1048576: true; the input reads as it did. -/
def screenOfUptoRow : OpenClaim := { program := "ytoeemmlfcnokiaagreat", sum := "7d7a9e4f89ba093dea1efca7cbef27a62815c11023c97311d0e7dd2c64cd7b78", func := "rotulus/rotuluslaw7.ScreenOf", spec := "screenOf", unfollowed := true, recurses := true, apart := false, narrowed := true }
def ScreenOfUptoSaid : Prop := screenOfUptoRow.holds Tryz.pinned (OpenSpec.upto screenOfSpec)

end Rows
end Go.Proofs.YtoeemmlfcnokiaaGreat
