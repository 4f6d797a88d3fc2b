/-
  No cell of these rows narrows 'for every input' (looked for: loops, veiled, ifaces, maps, wideKeys, modest, calm, conditions, laid).
  DERIVED. THE GIVEN ROWS OF THIS SEAT. 5 by the template 'for every input the law returns true; each argument reads behind the call as it read before'; 0 by the template 'total and deterministic' (their statements: YtpaakagaiogknaaGreatTotals.lean).
  GIVEN WITH THE SEED: the statements are not yours to turn. If you find one false, say at which input.
  Laid BY PROGRAM, IN A SANDBOX (cutbox-rows.mjs): the forced cells as the released guide's own fill.sh prints them over the translation c14845c6df72539b… (all of the seat's roots in one cut). By AI agents, Wed Nov 11 2026. No macro, syntax, notation, axiom, sorry.
-/
import Derived.Test.YtpaakagaiogknaaGreatChecked
import GoSem.Claim
import GoSem.ClaimJoined
import GoSem.ClaimMapViews
import Derived.JoinedTies
import Derived.KernelRfl
namespace Go.Proofs.YtpaakagaiogknaaGreat
/- THE CELL 'sum', in the pinned program and in every row, IS THE sha256 OF THE DUMP (.gsa) THAT YtpaakagaiogknaaGreatProg.lean LOADS. Nothing in Lean hashes anything: it is a label: what it is worth is what the hold of that sum in a sandbox is worth. -/
noncomputable def Tryz.pinned : Pinned := { name := "ytpaakagaiogknaagreat", sum := "c14845c6df72539bde323dd3a8b3e08cc159d546047cb28f565ba92a2ff34f4a", checked := Tryz.checked }
namespace Rows
def none {H : Type} : Left H := { results := [], args := [] }

/-- 'rotuluslaw18.WordAll': WHATEVER THE INPUT: true; the input reads as it did. -/
def wordAllSpec : ChangeSpec := { name := "wordAll", fn := fun _ => fun
  | [d1, d2, d3] => { results := [.lit (.bool true)], args := [d1, d2, d3] }
  | _ => none }
def wordAllRow : OpenClaim := { program := "ytpaakagaiogknaagreat", sum := "c14845c6df72539bde323dd3a8b3e08cc159d546047cb28f565ba92a2ff34f4a", func := "rotulus/rotuluslaw18.WordAll", spec := "wordAll", unfollowed := true, recurses := true, apart := false }
def WordAllSaid : Prop := wordAllRow.holds Tryz.pinned (OpenSpec.ofChange wordAllSpec)

/-- ITS FALSE NEIGHBOUR: 'it returns false'. Refute it at one input. -/
def wordAllWrong : ChangeSpec := { name := "wordAll", fn := fun _ => fun
  | [d1, d2, d3] => { results := [.lit (.bool false)], args := [d1, d2, d3] }
  | _ => none }
def WordAllWrongFalsely : Prop := wordAllRow.holds Tryz.pinned (OpenSpec.ofChange wordAllWrong)

/-- 'rotuluslaw18.WordWay': WHATEVER THE INPUT: true; the input reads as it did. -/
def wordWaySpec : ChangeSpec := { name := "wordWay", fn := fun _ => fun
  | [d] => { results := [.lit (.bool true)], args := [d] }
  | _ => none }
def wordWayRow : OpenClaim := { program := "ytpaakagaiogknaagreat", sum := "c14845c6df72539bde323dd3a8b3e08cc159d546047cb28f565ba92a2ff34f4a", func := "rotulus/rotuluslaw18.WordWay", spec := "wordWay", unfollowed := true, recurses := true, apart := false }
def WordWaySaid : Prop := wordWayRow.holds Tryz.pinned (OpenSpec.ofChange wordWaySpec)

/-- ITS FALSE NEIGHBOUR: 'it returns false'. Refute it at one input. -/
def wordWayWrong : ChangeSpec := { name := "wordWay", fn := fun _ => fun
  | [d] => { results := [.lit (.bool false)], args := [d] }
  | _ => none }
def WordWayWrongFalsely : Prop := wordWayRow.holds Tryz.pinned (OpenSpec.ofChange wordWayWrong)

/-- 'rotuluslaw18.WordEnds': WHATEVER THE INPUT: true; the input reads as it did. -/
def wordEndsSpec : ChangeSpec := { name := "wordEnds", fn := fun _ => fun
  | [d1, d2] => { results := [.lit (.bool true)], args := [d1, d2] }
  | _ => none }
def wordEndsRow : OpenClaim := { program := "ytpaakagaiogknaagreat", sum := "c14845c6df72539bde323dd3a8b3e08cc159d546047cb28f565ba92a2ff34f4a", func := "rotulus/rotuluslaw18.WordEnds", spec := "wordEnds", unfollowed := true, recurses := true, apart := false }
def WordEndsSaid : Prop := wordEndsRow.holds Tryz.pinned (OpenSpec.ofChange wordEndsSpec)

/-- ITS FALSE NEIGHBOUR: 'it returns false'. Refute it at one input. -/
def wordEndsWrong : ChangeSpec := { name := "wordEnds", fn := fun _ => fun
  | [d1, d2] => { results := [.lit (.bool false)], args := [d1, d2] }
  | _ => none }
def WordEndsWrongFalsely : Prop := wordEndsRow.holds Tryz.pinned (OpenSpec.ofChange wordEndsWrong)

/-- 'rotuluslaw18.KeysAll': WHATEVER THE INPUT: true; the input reads as it did. -/
def keysAllSpec : ChangeSpec := { name := "keysAll", fn := fun _ => fun
  | [d1, d2] => { results := [.lit (.bool true)], args := [d1, d2] }
  | _ => none }
def keysAllRow : OpenClaim := { program := "ytpaakagaiogknaagreat", sum := "c14845c6df72539bde323dd3a8b3e08cc159d546047cb28f565ba92a2ff34f4a", func := "rotulus/rotuluslaw18.KeysAll", spec := "keysAll", unfollowed := true, recurses := true, apart := false }
def KeysAllSaid : Prop := keysAllRow.holds Tryz.pinned (OpenSpec.ofChange keysAllSpec)

/-- ITS FALSE NEIGHBOUR: 'it returns false'. Refute it at one input. -/
def keysAllWrong : ChangeSpec := { name := "keysAll", fn := fun _ => fun
  | [d1, d2] => { results := [.lit (.bool false)], args := [d1, d2] }
  | _ => none }
def KeysAllWrongFalsely : Prop := keysAllRow.holds Tryz.pinned (OpenSpec.ofChange keysAllWrong)

/-- 'rotuluslaw18.KeysOwn': WHATEVER THE INPUT: true; the input reads as it did. -/
def keysOwnSpec : ChangeSpec := { name := "keysOwn", fn := fun _ => fun
  | [d1, d2] => { results := [.lit (.bool true)], args := [d1, d2] }
  | _ => none }
def keysOwnRow : OpenClaim := { program := "ytpaakagaiogknaagreat", sum := "c14845c6df72539bde323dd3a8b3e08cc159d546047cb28f565ba92a2ff34f4a", func := "rotulus/rotuluslaw18.KeysOwn", spec := "keysOwn", unfollowed := true, recurses := true, apart := false }
def KeysOwnSaid : Prop := keysOwnRow.holds Tryz.pinned (OpenSpec.ofChange keysOwnSpec)

/-- ITS FALSE NEIGHBOUR: 'it returns false'. Refute it at one input. -/
def keysOwnWrong : ChangeSpec := { name := "keysOwn", fn := fun _ => fun
  | [d1, d2] => { results := [.lit (.bool false)], args := [d1, d2] }
  | _ => none }
def KeysOwnWrongFalsely : Prop := keysOwnRow.holds Tryz.pinned (OpenSpec.ofChange keysOwnWrong)

/- THE SECOND FORM. 'bulk': how many values and letters a reading holds, each counted each time it is reached (what is shared counts as often as it is met; a slice's spare places count too). A statement '..UptoSaid' is the law's where the arguments, and the package variables that the reading takes, are together of bulk at most 1048576: NARROWER than '..Said'. Prove '..Said' where nothing that the law and all that it calls make is longer than what came in: it says more and counts as full. Else prove '..UptoSaid'. A law counts once. -/
mutual
def uptoBulk {H : Type} : DataW H → Nat
  | .lit (.string bytes) => bytes.length + 1
  | .lit _ => 1
  | .nil => 1
  | .ptr d => uptoBulk d + 1
  | .slice elems spare => uptoBulkAll elems + uptoBulkAll spare + 1
  | .agg parts => uptoBulkAll parts + 1
  | .iface _ d => uptoBulk d + 1
  | .map entries => uptoBulkEntries entries + 1
  | .held _ => 1
def uptoBulkAll {H : Type} : List (DataW H) → Nat
  | [] => 0
  | d :: r => uptoBulk d + uptoBulkAll r
def uptoBulkEntries {H : Type} : List (Lit × DataW H) → Nat
  | [] => 0
  | x :: r => uptoBulkEntry x + uptoBulkEntries r
def uptoBulkEntry {H : Type} : Lit × DataW H → Nat
  | (.string bytes, d) => bytes.length + uptoBulk d + 1
  | (_, d) => uptoBulk d + 1
 end
def uptoSmall : (H : Type) → List (DataW H) → Bool := fun _ ds => decide (uptoBulkAll ds ≤ 1048576)
def OpenSpec.upto (s : _root_.Go.ChangeSpec) : _root_.Go.OpenSpec := { _root_.Go.OpenSpec.ofChange s with cond := some uptoSmall }

/-- 'rotuluslaw18.WordAll', WHERE WHAT IT READS IS OF BULK AT MOST 1048576: true; the input reads as it did. -/
def wordAllUptoRow : OpenClaim := { program := "ytpaakagaiogknaagreat", sum := "c14845c6df72539bde323dd3a8b3e08cc159d546047cb28f565ba92a2ff34f4a", func := "rotulus/rotuluslaw18.WordAll", spec := "wordAll", unfollowed := true, recurses := true, apart := false, narrowed := true }
def WordAllUptoSaid : Prop := wordAllUptoRow.holds Tryz.pinned (OpenSpec.upto wordAllSpec)

/-- 'rotuluslaw18.WordWay', WHERE WHAT IT READS IS OF BULK AT MOST 1048576: true; the input reads as it did. -/
def wordWayUptoRow : OpenClaim := { program := "ytpaakagaiogknaagreat", sum := "c14845c6df72539bde323dd3a8b3e08cc159d546047cb28f565ba92a2ff34f4a", func := "rotulus/rotuluslaw18.WordWay", spec := "wordWay", unfollowed := true, recurses := true, apart := false, narrowed := true }
def WordWayUptoSaid : Prop := wordWayUptoRow.holds Tryz.pinned (OpenSpec.upto wordWaySpec)

/-- 'rotuluslaw18.WordEnds', WHERE WHAT IT READS IS OF BULK AT MOST 1048576: true; the input reads as it did. -/
def wordEndsUptoRow : OpenClaim := { program := "ytpaakagaiogknaagreat", sum := "c14845c6df72539bde323dd3a8b3e08cc159d546047cb28f565ba92a2ff34f4a", func := "rotulus/rotuluslaw18.WordEnds", spec := "wordEnds", unfollowed := true, recurses := true, apart := false, narrowed := true }
def WordEndsUptoSaid : Prop := wordEndsUptoRow.holds Tryz.pinned (OpenSpec.upto wordEndsSpec)

/-- 'rotuluslaw18.KeysAll', WHERE WHAT IT READS IS OF BULK AT MOST 1048576: true; the input reads as it did. -/
def keysAllUptoRow : OpenClaim := { program := "ytpaakagaiogknaagreat", sum := "c14845c6df72539bde323dd3a8b3e08cc159d546047cb28f565ba92a2ff34f4a", func := "rotulus/rotuluslaw18.KeysAll", spec := "keysAll", unfollowed := true, recurses := true, apart := false, narrowed := true }
def KeysAllUptoSaid : Prop := keysAllUptoRow.holds Tryz.pinned (OpenSpec.upto keysAllSpec)

/-- 'rotuluslaw18.KeysOwn', WHERE WHAT IT READS IS OF BULK AT MOST 1048576: true; the input reads as it did. -/
def keysOwnUptoRow : OpenClaim := { program := "ytpaakagaiogknaagreat", sum := "c14845c6df72539bde323dd3a8b3e08cc159d546047cb28f565ba92a2ff34f4a", func := "rotulus/rotuluslaw18.KeysOwn", spec := "keysOwn", unfollowed := true, recurses := true, apart := false, narrowed := true }
def KeysOwnUptoSaid : Prop := keysOwnUptoRow.holds Tryz.pinned (OpenSpec.upto keysOwnSpec)

end Rows
end Go.Proofs.YtpaakagaiogknaaGreat
