/-
  No cell of these rows narrows 'for every input' (looked for: loops, veiled, ifaces, maps, wideKeys, modest, calm, conditions, laid).
  DERIVED. THE GIVEN ROWS OF THIS SEAT. 7 by the template 'for every input the law returns true; each argument reads behind the call as it read before'; 0 by the template 'total and deterministic' (their statements: YtoeemmlfcnokiaaTotals.lean).
  GIVEN WITH THE SEED: the statements are not yours to turn. If you find one false, say at which input.
  Laid BY PROGRAM, IN A SANDBOX (cutbox-rows.mjs): the forced cells as the released guide's own fill.sh prints them over the translation 085131cdc8f84667… (all of the seat's roots in one cut). By AI agents, Wed Nov 11 2026. No macro, syntax, notation, axiom, sorry.
-/
import Derived.Test.YtoeemmlfcnokiaaChecked
import GoSem.Claim
import GoSem.ClaimJoined
import GoSem.ClaimMapViews
import Derived.JoinedTies
import Derived.KernelRfl
namespace Go.Proofs.Ytoeemmlfcnokiaa
/- THE CELL 'sum', in the pinned program and in every row, IS THE sha256 OF THE DUMP (.gsa) THAT YtoeemmlfcnokiaaProg.lean LOADS. Nothing in Lean hashes anything: it is a label: what it is worth is what the hold of that sum in a sandbox is worth. -/
noncomputable def Try.pinned : Pinned := { name := "ytoeemmlfcnokiaa", sum := "085131cdc8f8466719c0d328a2fc2670b9547e52dd6df3f56a598ab82f54361d", checked := Try.checked }
namespace Rows
def none {H : Type} : Left H := { results := [], args := [] }

/-- 'rotuluslaw7.EscOsc': WHATEVER THE INPUT: true; the input reads as it did. -/
def escOscSpec : ChangeSpec := { name := "escOsc", fn := fun _ => fun
  | [d1, d2, d3] => { results := [.lit (.bool true)], args := [d1, d2, d3] }
  | _ => none }
def escOscRow : OpenClaim := { program := "ytoeemmlfcnokiaa", sum := "085131cdc8f8466719c0d328a2fc2670b9547e52dd6df3f56a598ab82f54361d", func := "rotulus/rotuluslaw7.EscOsc", spec := "escOsc", unfollowed := true, recurses := true, apart := false }
def EscOscSaid : Prop := escOscRow.holds Try.pinned (OpenSpec.ofChange escOscSpec)

/-- ITS FALSE NEIGHBOUR: 'it returns false'. Refute it at one input. -/
def escOscWrong : ChangeSpec := { name := "escOsc", fn := fun _ => fun
  | [d1, d2, d3] => { results := [.lit (.bool false)], args := [d1, d2, d3] }
  | _ => none }
def EscOscWrongFalsely : Prop := escOscRow.holds Try.pinned (OpenSpec.ofChange escOscWrong)

/-- 'rotuluslaw7.EscNumbers': WHATEVER THE INPUT: true; the input reads as it did. -/
def escNumbersSpec : ChangeSpec := { name := "escNumbers", fn := fun _ => fun
  | [d1, d2] => { results := [.lit (.bool true)], args := [d1, d2] }
  | _ => none }
def escNumbersRow : OpenClaim := { program := "ytoeemmlfcnokiaa", sum := "085131cdc8f8466719c0d328a2fc2670b9547e52dd6df3f56a598ab82f54361d", func := "rotulus/rotuluslaw7.EscNumbers", spec := "escNumbers", unfollowed := true, recurses := true, apart := false }
def EscNumbersSaid : Prop := escNumbersRow.holds Try.pinned (OpenSpec.ofChange escNumbersSpec)

/-- ITS FALSE NEIGHBOUR: 'it returns false'. Refute it at one input. -/
def escNumbersWrong : ChangeSpec := { name := "escNumbers", fn := fun _ => fun
  | [d1, d2] => { results := [.lit (.bool false)], args := [d1, d2] }
  | _ => none }
def EscNumbersWrongFalsely : Prop := escNumbersRow.holds Try.pinned (OpenSpec.ofChange escNumbersWrong)

/-- 'rotuluslaw7.ScreenOwn': WHATEVER THE INPUT: true; the input reads as it did. -/
def screenOwnSpec : ChangeSpec := { name := "screenOwn", fn := fun _ => fun
  | [d] => { results := [.lit (.bool true)], args := [d] }
  | _ => none }
def screenOwnRow : OpenClaim := { program := "ytoeemmlfcnokiaa", sum := "085131cdc8f8466719c0d328a2fc2670b9547e52dd6df3f56a598ab82f54361d", func := "rotulus/rotuluslaw7.ScreenOwn", spec := "screenOwn", unfollowed := true, recurses := true, apart := false }
def ScreenOwnSaid : Prop := screenOwnRow.holds Try.pinned (OpenSpec.ofChange screenOwnSpec)

/-- ITS FALSE NEIGHBOUR: 'it returns false'. Refute it at one input. -/
def screenOwnWrong : ChangeSpec := { name := "screenOwn", fn := fun _ => fun
  | [d] => { results := [.lit (.bool false)], args := [d] }
  | _ => none }
def ScreenOwnWrongFalsely : Prop := screenOwnRow.holds Try.pinned (OpenSpec.ofChange screenOwnWrong)

/-- 'rotuluslaw7.EscQuiet': WHATEVER THE INPUT: true; the input reads as it did. -/
def escQuietSpec : ChangeSpec := { name := "escQuiet", fn := fun _ => fun
  | [d] => { results := [.lit (.bool true)], args := [d] }
  | _ => none }
def escQuietRow : OpenClaim := { program := "ytoeemmlfcnokiaa", sum := "085131cdc8f8466719c0d328a2fc2670b9547e52dd6df3f56a598ab82f54361d", func := "rotulus/rotuluslaw7.EscQuiet", spec := "escQuiet", unfollowed := true, recurses := true, apart := false }
def EscQuietSaid : Prop := escQuietRow.holds Try.pinned (OpenSpec.ofChange escQuietSpec)

/-- ITS FALSE NEIGHBOUR: 'it returns false'. Refute it at one input. -/
def escQuietWrong : ChangeSpec := { name := "escQuiet", fn := fun _ => fun
  | [d] => { results := [.lit (.bool false)], args := [d] }
  | _ => none }
def EscQuietWrongFalsely : Prop := escQuietRow.holds Try.pinned (OpenSpec.ofChange escQuietWrong)

/-- 'rotuluslaw7.EscPlain': WHATEVER THE INPUT: true; the input reads as it did. -/
def escPlainSpec : ChangeSpec := { name := "escPlain", fn := fun _ => fun
  | [d] => { results := [.lit (.bool true)], args := [d] }
  | _ => none }
def escPlainRow : OpenClaim := { program := "ytoeemmlfcnokiaa", sum := "085131cdc8f8466719c0d328a2fc2670b9547e52dd6df3f56a598ab82f54361d", func := "rotulus/rotuluslaw7.EscPlain", spec := "escPlain", unfollowed := true, recurses := true, apart := false }
def EscPlainSaid : Prop := escPlainRow.holds Try.pinned (OpenSpec.ofChange escPlainSpec)

/-- ITS FALSE NEIGHBOUR: 'it returns false'. Refute it at one input. -/
def escPlainWrong : ChangeSpec := { name := "escPlain", fn := fun _ => fun
  | [d] => { results := [.lit (.bool false)], args := [d] }
  | _ => none }
def EscPlainWrongFalsely : Prop := escPlainRow.holds Try.pinned (OpenSpec.ofChange escPlainWrong)

/-- 'rotuluslaw7.ScreenWrap': WHATEVER THE INPUT: true; the input reads as it did. -/
def screenWrapSpec : ChangeSpec := { name := "screenWrap", fn := fun _ => fun
  | [d1, d2] => { results := [.lit (.bool true)], args := [d1, d2] }
  | _ => none }
def screenWrapRow : OpenClaim := { program := "ytoeemmlfcnokiaa", sum := "085131cdc8f8466719c0d328a2fc2670b9547e52dd6df3f56a598ab82f54361d", func := "rotulus/rotuluslaw7.ScreenWrap", spec := "screenWrap", unfollowed := true, recurses := true, apart := false }
def ScreenWrapSaid : Prop := screenWrapRow.holds Try.pinned (OpenSpec.ofChange screenWrapSpec)

/-- ITS FALSE NEIGHBOUR: 'it returns false'. Refute it at one input. -/
def screenWrapWrong : ChangeSpec := { name := "screenWrap", fn := fun _ => fun
  | [d1, d2] => { results := [.lit (.bool false)], args := [d1, d2] }
  | _ => none }
def ScreenWrapWrongFalsely : Prop := screenWrapRow.holds Try.pinned (OpenSpec.ofChange screenWrapWrong)

/-- 'rotuluslaw7.ScreenOut': WHATEVER THE INPUT: true; the input reads as it did. -/
def screenOutSpec : ChangeSpec := { name := "screenOut", fn := fun _ => fun
  | [d1, d2] => { results := [.lit (.bool true)], args := [d1, d2] }
  | _ => none }
def screenOutRow : OpenClaim := { program := "ytoeemmlfcnokiaa", sum := "085131cdc8f8466719c0d328a2fc2670b9547e52dd6df3f56a598ab82f54361d", func := "rotulus/rotuluslaw7.ScreenOut", spec := "screenOut", unfollowed := true, recurses := true, apart := false }
def ScreenOutSaid : Prop := screenOutRow.holds Try.pinned (OpenSpec.ofChange screenOutSpec)

/-- ITS FALSE NEIGHBOUR: 'it returns false'. Refute it at one input. -/
def screenOutWrong : ChangeSpec := { name := "screenOut", fn := fun _ => fun
  | [d1, d2] => { results := [.lit (.bool false)], args := [d1, d2] }
  | _ => none }
def ScreenOutWrongFalsely : Prop := screenOutRow.holds Try.pinned (OpenSpec.ofChange screenOutWrong)

/- THE SECOND FORM. 'bulk': how many values and letters a reading holds, each counted each time it is reached (what is shared counts as often as it is met; a slice's spare places count too). A statement '..UptoSaid' is the law's where the arguments, and the package variables that the reading takes, are together of bulk at most 1048576: NARROWER than '..Said'. Prove '..Said' where nothing that the law and all that it calls make is longer than what came in: it says more and counts as full. Else prove '..UptoSaid'. A law counts once. -/
mutual
def uptoBulk {H : Type} : DataW H → Nat
  | .lit (.string bytes) => bytes.length + 1
  | .lit _ => 1
  | .nil => 1
  | .ptr d => uptoBulk d + 1
  | .slice elems spare => uptoBulkAll elems + uptoBulkAll spare + 1
  | .agg parts => uptoBulkAll parts + 1
  | .iface _ d => uptoBulk d + 1
  | .map entries => uptoBulkEntries entries + 1
  | .held _ => 1
def uptoBulkAll {H : Type} : List (DataW H) → Nat
  | [] => 0
  | d :: r => uptoBulk d + uptoBulkAll r
def uptoBulkEntries {H : Type} : List (Lit × DataW H) → Nat
  | [] => 0
  | x :: r => uptoBulkEntry x + uptoBulkEntries r
def uptoBulkEntry {H : Type} : Lit × DataW H → Nat
  | (.string bytes, d) => bytes.length + uptoBulk d + 1
  | (_, d) => uptoBulk d + 1
 end
def uptoSmall : (H : Type) → List (DataW H) → Bool := fun _ ds => decide (uptoBulkAll ds ≤ 1048576)
def OpenSpec.upto (s : _root_.Go.ChangeSpec) : _root_.Go.OpenSpec := { _root_.Go.OpenSpec.ofChange s with cond := some uptoSmall }

/-- 'rotuluslaw7.EscOsc', WHERE WHAT IT READS IS OF BULK AT MOST 1048576: true; the input reads as it did. -/
def escOscUptoRow : OpenClaim := { program := "ytoeemmlfcnokiaa", sum := "085131cdc8f8466719c0d328a2fc2670b9547e52dd6df3f56a598ab82f54361d", func := "rotulus/rotuluslaw7.EscOsc", spec := "escOsc", unfollowed := true, recurses := true, apart := false, narrowed := true }
def EscOscUptoSaid : Prop := escOscUptoRow.holds Try.pinned (OpenSpec.upto escOscSpec)

/-- 'rotuluslaw7.EscNumbers', WHERE WHAT IT READS IS OF BULK AT MOST 1048576: true; the input reads as it did. -/
def escNumbersUptoRow : OpenClaim := { program := "ytoeemmlfcnokiaa", sum := "085131cdc8f8466719c0d328a2fc2670b9547e52dd6df3f56a598ab82f54361d", func := "rotulus/rotuluslaw7.EscNumbers", spec := "escNumbers", unfollowed := true, recurses := true, apart := false, narrowed := true }
def EscNumbersUptoSaid : Prop := escNumbersUptoRow.holds Try.pinned (OpenSpec.upto escNumbersSpec)

/-- 'rotuluslaw7.ScreenOwn', WHERE WHAT IT READS IS OF BULK AT MOST 1048576: true; the input reads as it did. -/
def screenOwnUptoRow : OpenClaim := { program := "ytoeemmlfcnokiaa", sum := "085131cdc8f8466719c0d328a2fc2670b9547e52dd6df3f56a598ab82f54361d", func := "rotulus/rotuluslaw7.ScreenOwn", spec := "screenOwn", unfollowed := true, recurses := true, apart := false, narrowed := true }
def ScreenOwnUptoSaid : Prop := screenOwnUptoRow.holds Try.pinned (OpenSpec.upto screenOwnSpec)

/-- 'rotuluslaw7.EscQuiet', WHERE WHAT IT READS IS OF BULK AT MOST 1048576: true; the input reads as it did. -/
def escQuietUptoRow : OpenClaim := { program := "ytoeemmlfcnokiaa", sum := "085131cdc8f8466719c0d328a2fc2670b9547e52dd6df3f56a598ab82f54361d", func := "rotulus/rotuluslaw7.EscQuiet", spec := "escQuiet", unfollowed := true, recurses := true, apart := false, narrowed := true }
def EscQuietUptoSaid : Prop := escQuietUptoRow.holds Try.pinned (OpenSpec.upto escQuietSpec)

/-- 'rotuluslaw7.EscPlain', WHERE WHAT IT READS IS OF BULK AT MOST 1048576: true; the input reads as it did. -/
def escPlainUptoRow : OpenClaim := { program := "ytoeemmlfcnokiaa", sum := "085131cdc8f8466719c0d328a2fc2670b9547e52dd6df3f56a598ab82f54361d", func := "rotulus/rotuluslaw7.EscPlain", spec := "escPlain", unfollowed := true, recurses := true, apart := false, narrowed := true }
def EscPlainUptoSaid : Prop := escPlainUptoRow.holds Try.pinned (OpenSpec.upto escPlainSpec)

/-- 'rotuluslaw7.ScreenWrap', WHERE WHAT IT READS IS OF BULK AT MOST 1048576: true; the input reads as it did. -/
def screenWrapUptoRow : OpenClaim := { program := "ytoeemmlfcnokiaa", sum := "085131cdc8f8466719c0d328a2fc2670b9547e52dd6df3f56a598ab82f54361d", func := "rotulus/rotuluslaw7.ScreenWrap", spec := "screenWrap", unfollowed := true, recurses := true, apart := false, narrowed := true }
def ScreenWrapUptoSaid : Prop := screenWrapUptoRow.holds Try.pinned (OpenSpec.upto screenWrapSpec)

/-- 'rotuluslaw7.ScreenOut', WHERE WHAT IT READS IS OF BULK AT MOST 1048576: true; the input reads as it did. -/
def screenOutUptoRow : OpenClaim := { program := "ytoeemmlfcnokiaa", sum := "085131cdc8f8466719c0d328a2fc2670b9547e52dd6df3f56a598ab82f54361d", func := "rotulus/rotuluslaw7.ScreenOut", spec := "screenOut", unfollowed := true, recurses := true, apart := false, narrowed := true }
def ScreenOutUptoSaid : Prop := screenOutUptoRow.holds Try.pinned (OpenSpec.upto screenOutSpec)

end Rows
end Go.Proofs.Ytoeemmlfcnokiaa
