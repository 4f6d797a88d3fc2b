/- The seat's environment; begun(). -/
import Derived.Test.YtoeemmlfcnokiaaAmW2
import Derived.Test.YtoeemmlfcnokiaaProg
set_option linter.all false
set_option linter.deprecated false
namespace Go.Am
open Go.Proofs

def memN (l : List Nat) (n : Nat) : Bool := l.any (Nat.beq n)
def polA (f : FuncId) : Mode :=
  if memN [12, 16, 30, 31, 32, 33, 34, 36, 37, 38, 51, 55, 57, 58, 60, 72, 74, 83, 85, 90, 94, 95, 100, 101, 108, 109] f then .eff
  else if memN [76, 15, 35, 40, 41, 67, 70, 71, 89, 97, 107] f then .own else .pure
def eqA : TypeId → Option (List EK)
  | 46 | 47 => some [.i, .i, .i]
  | 54 | 55 => some [.i, .i]
  | _ => none
noncomputable def EA : Env := { P := Try.prog, pol := polA, eqT := eqA }

theorem eqA_ok (t : TypeId) (ks : List EK) (h : eqA t = some ks) : EqOK Try.prog t ks := by
  unfold eqA at h
  split at h <;> first | (cases h; done) | (cases h; exact eqKinds_ok (by kernel_rfl))
theorem noNG_all : (Try.prog.funcs.toList.all fun fn => !(fn.name == "runtime.NumGoroutine")) = true := by kernel_rfl
theorem EA_ok : ProgOK EA where
  eq := eqA_ok
  mixed := by show Try.prog.follows .mixedOrders = true; kernel_rfl
  noNG := fun f fn h => by
    have := List.all_eq_true.1 noNG_all fn (Array.mem_toList_iff.2 (Array.mem_of_getElem? h))
    simpa using this

/-- The call gives true. -/
def isT (x : Option (AV × AHeap)) : Bool := match x with
  | some (.v (.bool true), _) => true
  | _ => false
theorem isT_ok {x : Option (AV × AHeap)} (h : isT x = true) : ∃ H, x = some (.v (.bool true), H) := by
  unfold isT at h
  split at h
  · exact ⟨_, rfl⟩
  · cases h
theorem begun_run : isT (acall EA [] 3000 0 10 [] .empty) = true := by kernel_rfl

end Go.Am
