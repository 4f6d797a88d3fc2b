/- The seat's environment; begun(). -/
import Derived.Test.YtoeemmlfcnokiaaGreatAmW2
import Derived.Test.YtoeemmlfcnokiaaGreatProg
set_option linter.all false
set_option linter.deprecated false
namespace Go.Am
open Go.Proofs

def memN (l : List Nat) (n : Nat) : Bool := l.any (Nat.beq n)
def polO (f : FuncId) : Mode :=
  if memN [15, 16, 41, 47, 52, 53, 54, 55, 56, 57, 74, 75, 76, 79, 80, 81, 86, 95, 97, 98, 100, 102, 108, 110, 118, 123, 126, 130, 131, 137, 138, 145, 146, 40] f then .eff
  else if memN [112, 36, 39, 46, 49, 50, 77, 78, 103, 106, 107, 125, 133, 144, 63, 23, 25] f then .own else .pure
def eqO : TypeId → Option (List EK)
  | 60 | 61 => some [.i, .i, .i]
  | 72 | 73 => some [.i, .i]
  | _ => none
noncomputable def EO : Env := { P := Tryz.prog, pol := polO, eqT := eqO }

theorem eqO_ok (t : TypeId) (ks : List EK) (h : eqO t = some ks) : EqOK Tryz.prog t ks := by
  unfold eqO at h
  split at h <;> first | (cases h; done) | (cases h; exact eqKinds_ok (by kernel_rfl))
theorem noNG_all : (Tryz.prog.funcs.toList.all fun fn => !(fn.name == "runtime.NumGoroutine")) = true := by kernel_rfl
theorem EO_ok : ProgOK EO where
  eq := eqO_ok
  mixed := by show Tryz.prog.follows .mixedOrders = true; kernel_rfl
  noNG := fun f fn h => by
    have := List.all_eq_true.1 noNG_all fn (Array.mem_toList_iff.2 (Array.mem_of_getElem? h))
    simpa using this
  orc := fun f args x h => nomatch (show none = some x from h)

/-- The call gives true. -/
def isT (x : Option (AV × AHeap)) : Bool := match x with
  | some (.v (.bool true), _) => true
  | _ => false
theorem isT_ok {x : Option (AV × AHeap)} (h : isT x = true) : ∃ H, x = some (.v (.bool true), H) := by
  unfold isT at h
  split at h
  · exact ⟨_, rfl⟩
  · cases h
theorem begun_run : isT (acall EO [] 3000 0 14 [] .empty) = true := by kernel_rfl

end Go.Am
