/- The seat's environment; begun(). -/
import Derived.Test.YtpaakagaiogknaaGreatAmD
import Derived.Test.YtpaakagaiogknaaGreatProg
set_option linter.all false
set_option linter.deprecated false
namespace Go.Am
open Go.Proofs
set_option maxRecDepth 100000

def memN (l : List Nat) (n : Nat) : Bool := l.any (Nat.beq n)
def polLo (f : FuncId) : Mode :=
  if memN [8, 16, 18] f then .orc else if memN [67, 68, 104, 105, 106, 107, 108, 109, 110, 111, 138, 140, 141, 142, 144, 114, 69, 157, 158, 170, 115, 147, 146, 66, 102, 103, 64, 45, 46, 43] f then .eff
  else if memN [117, 62, 77, 78, 101, 145, 113, 63, 160, 173, 178, 57, 39, 95, 44] f then .own else .pure
def eqLo : TypeId → Option (List EK)
  | 25 | 26 => some [.i, .i, .i]
  | 62 | 63 => some [.i, .i]
  | 23 | 24 => some [.i, .i, .i]
  | _ => none
def frzLo (t : TypeId) : Bool := memN [65] t
abbrev Orc := FuncId → List AV → Option AV
/-- Which oracle is at hand. -/
class OrcI (oc : outParam Orc) : Prop where
  t : True
noncomputable def ELo (oc : Orc) : Env := { P := Tryz.prog, pol := polLo, eqT := eqLo, frzB := frzLo, orc := oc }
theorem frzB_Lo (oc : Orc) : ((ELo oc).frzB 22 = false) ∧ ((ELo oc).frzB 33 = false) ∧ ((ELo oc).frzB 34 = false) ∧ ((ELo oc).frzB 38 = false) ∧ ((ELo oc).frzB 58 = false) ∧ ((ELo oc).frzB 65 = true) ∧ ((ELo oc).frzB 97 = false) ∧ ((ELo oc).frzB 98 = false) ∧ ((ELo oc).frzB 104 = false) ∧ ((ELo oc).frzB 106 = false) ∧ ((ELo oc).frzB 120 = false) ∧ ((ELo oc).frzB 136 = false) ∧ ((ELo oc).frzB 175 = false) ∧ ((ELo oc).frzB 192 = false) := ⟨rfl, rfl, rfl, rfl, rfl, rfl, rfl, rfl, rfl, rfl, rfl, rfl, rfl, rfl⟩
attribute [go_sem] frzB_Lo


theorem eqLo_ok (t : TypeId) (ks : List EK) (h : eqLo t = some ks) : EqOK Tryz.prog t ks := by
  unfold eqLo at h
  split at h <;> first | (cases h; done) | (cases h; exact eqKinds_ok (by kernel_rfl))
theorem noNG_all : (Tryz.prog.funcs.toList.all fun fn => !(fn.name == "runtime.NumGoroutine")) = true := by kernel_rfl
theorem ELo_ok (oc : Orc) (ho : ∀ f args x, oc f args = some x → OrcOK Tryz.prog f args x) : ProgOK (ELo oc) where
  eq := eqLo_ok
  mixed := by show Tryz.prog.follows .mixedOrders = true; kernel_rfl
  noNG := fun f fn h => by
    have := List.all_eq_true.1 noNG_all fn (Array.mem_toList_iff.2 (Array.mem_of_getElem? h))
    simpa using this
  orc := ho

/-- The call gives true. -/
def isT (x : Option (AV × AHeap)) : Bool := match x with
  | some (.v (.bool true), _) => true
  | _ => false
theorem isT_ok {x : Option (AV × AHeap)} (h : isT x = true) : ∃ H, x = some (.v (.bool true), H) := by
  unfold isT at h
  split at h
  · exact ⟨_, rfl⟩
  · cases h

end Go.Am
