/- The seat's environment; begun(). -/
import Derived.Test.YtoeemmlfcnokiabAmEq
import Derived.Test.YtoeemmlfcnokiabAmW2
import Derived.Test.YtoeemmlfcnokiabProg
set_option linter.all false
set_option linter.deprecated false
namespace Go.Am
open Go.Proofs

def memN (l : List Nat) (n : Nat) : Bool := l.any (Nat.beq n)
def polB (f : FuncId) : Mode :=
  if memN [6, 8, 20, 21, 22, 23, 24, 25, 26, 27, 38, 40, 42, 43, 45, 57, 59, 68, 70, 75, 79, 80, 85, 86, 93, 94] f then .eff
  else if memN [61, 13, 12, 30, 28, 29, 47, 52, 55, 56, 74, 82, 92] f then .own else .pure
def eqB : TypeId → Option (List EK)
  | 51 | 52 => some [.i, .i, .i]
  | 35 | 36 => some [.i, .i]
  | _ => none
noncomputable def EB : Env := { P := Try.prog, pol := polB, eqT := eqB }

theorem eqB_ok (t : TypeId) (ks : List EK) (h : eqB t = some ks) : EqOK Try.prog t ks := by
  unfold eqB at h
  split at h <;> first | (cases h; done) | (cases h; exact eqKinds_ok (by kernel_rfl))
theorem noNG_all : (Try.prog.funcs.toList.all fun fn => !(fn.name == "runtime.NumGoroutine")) = true := by kernel_rfl
theorem EB_ok : ProgOK EB where
  eq := eqB_ok
  mixed := by show Try.prog.follows .mixedOrders = true; kernel_rfl
  noNG := fun f fn h => by
    have := List.all_eq_true.1 noNG_all fn (Array.mem_toList_iff.2 (Array.mem_of_getElem? h))
    simpa using this

/-- The call gives true. -/
def isT (x : Option (AV × AHeap)) : Bool := match x with
  | some (.v (.bool true), _) => true
  | _ => false
theorem isT_ok {x : Option (AV × AHeap)} (h : isT x = true) : ∃ H, x = some (.v (.bool true), H) := by
  unfold isT at h
  split at h
  · exact ⟨_, rfl⟩
  · cases h
theorem begun_run : isT (acall EB [] 3000 0 5 [] .empty) = true := by kernel_rfl

theorem ScreenNone_run : isT (acall EB [] 3000 0 3 [] .empty) = true := by kernel_rfl
theorem ScreenNone_law : WC EB [] 0 3 [] .empty fun x _ => x = .v (.bool true) := by
  obtain ⟨H', h⟩ := isT_ok ScreenNone_run
  exact ⟨_, _, _, h, rfl⟩

end Go.Am
