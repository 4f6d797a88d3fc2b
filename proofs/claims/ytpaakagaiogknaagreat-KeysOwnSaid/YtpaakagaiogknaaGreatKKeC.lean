
/- Keys: KeysAll, joined. -/
import Derived.Test.YtpaakagaiogknaaGreatKKeB
import Derived.Test.YtpaakagaiogknaaGreatKBek
import Derived.Maps.Views
set_option linter.all false
set_option linter.deprecated false
namespace Go.Am
variable {oc : Orc} [OrcI oc]
open Go.Proofs Go.Maps
set_option maxRecDepth 100000
set_option maxHeartbeats 4000000
noncomputable def nameO2 (args : List AV) : Option AV := match args with
  | [.v (.int .i64 t)] => if t = 1 then some (.sl 1 (namE viN)) else if t = 2 then some (.sl 1 (namE emN)) else some nilA
  | _ => none
noncomputable def orcF2 : Orc := fun f args => bif Nat.beq f 8 then tt0 args else bif Nat.beq f 16 then deedO args else bif Nat.beq f 18 then nameO2 args else none
instance orcIF2 : OrcI orcF2 := ⟨trivial⟩
end Go.Am
