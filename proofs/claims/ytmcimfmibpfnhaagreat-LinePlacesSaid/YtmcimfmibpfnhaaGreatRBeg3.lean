
/- begun() of layer 10, run by the kernel. -/
import Derived.Test.YtmcimfmibpfnhaaGreatRBeg
set_option linter.all false
set_option linter.deprecated false
namespace Go.Am
variable {oc : Orc} [OrcI oc]
open Go.Proofs
set_option maxRecDepth 100000
def tt0 (args : List AV) : Option AV := match args with
  | [] => some (.v (.bool true))
  | _ => none
noncomputable def polB2 (f : FuncId) : Mode := bif Nat.beq f 64 then .orc else polB1 f
noncomputable def orcB2 : Orc := fun f args => bif Nat.beq f 64 then tt0 args else orcB1 f args
noncomputable def EB2 : Env := { P := Tryz.prog, pol := polB2, eqT := eqLo, frzB := frzLo, orc := orcB2 }
theorem begun10_run : isT (acall EB2 [] 3000 0 22 [] .empty) = true := by kernel_rfl
end Go.Am
