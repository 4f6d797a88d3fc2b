/- The seat's environment; begun(). -/
import Derived.Test.YtmcimfmibpfnhaaGreatAmD
import Derived.Test.YtmcimfmibpfnhaaGreatProg
set_option linter.all false
set_option linter.deprecated false
namespace Go.Am
open Go.Proofs
set_option maxRecDepth 100000

def memN (l : List Nat) (n : Nat) : Bool := l.any (Nat.beq n)
def polLo (fl : Bool) (f : FuncId) : Mode :=
  if memN [22] f then .orc else if memN [28, 41] f && !fl then .orc else if memN [84, 102, 85, 103, 116, 117, 118, 119, 120, 138, 121, 122, 123, 140, 141, 142, 154, 156, 157, 158, 160, 169, 126, 86, 177, 178, 192, 127, 128, 162, 83, 114, 115, 73, 46, 53, 55, 96, 58, 59, 60, 45, 57, 87] f then .eff
  else if memN [134, 81, 97, 92, 100, 93, 95, 125, 82, 196, 201, 180, 23, 28, 35] f then .own else if memN [75, 110] f && fl then .own else .pure
def eqLo : TypeId → Option (List EK)
  | 51 | 52 => some [.i, .i, .i]
  | 24 | 25 => some [.i, .i]
  | 26 | 27 => some [.i, .i, .i]
  | _ => none
def frzLo (t : TypeId) : Bool := memN [54] t
/-- An oracle; do row.Blank and slices.Repeat hand over what they made? -/
structure Orc where
  o : FuncId → List AV → Option AV
  fl : Bool
/-- Which oracle is at hand. -/
class OrcI (oc : outParam Orc) : Prop where
  t : True
class OrcT (oc : Orc) : Prop where
  t : oc.fl = true
class OrcF (oc : Orc) : Prop where
  t : oc.fl = false
noncomputable def ELo (oc : Orc) : Env := { P := Tryz.prog, pol := polLo oc.fl, eqT := eqLo, frzB := frzLo, orc := oc.o }
/-- For the closed runs. -/
def polLoT (f : FuncId) : Mode :=
  if memN [22] f then .orc else if memN [84, 102, 85, 103, 116, 117, 118, 119, 120, 138, 121, 122, 123, 140, 141, 142, 154, 156, 157, 158, 160, 169, 126, 86, 177, 178, 192, 127, 128, 162, 83, 114, 115, 73, 46, 53, 55, 96, 58, 59, 60, 45, 57] f then .eff
  else if memN [87, 134, 81, 97, 92, 100, 93, 95, 161, 125, 82, 180, 196, 201, 75, 23, 28, 110, 35] f then .own else .pure
abbrev mkO (f : FuncId → List AV → Option AV) : Orc := ⟨f, true⟩
section
variable {oc : Orc}
theorem pB_own [h : OrcT oc] : (ELo oc).pol 75 = .own := by show polLo oc.fl 75 = _; rw [h.t]; rfl
theorem pR_own [h : OrcT oc] : (ELo oc).pol 110 = .own := by show polLo oc.fl 110 = _; rw [h.t]; rfl
theorem pJ_own [h : OrcT oc] : (ELo oc).pol 28 = .own := by show polLo oc.fl 28 = _; rw [h.t]; rfl
theorem pW_pure [h : OrcT oc] : (ELo oc).pol 41 = .pure := by show polLo oc.fl 41 = _; rw [h.t]; rfl
theorem pB_pure [h : OrcF oc] : (ELo oc).pol 75 = .pure := by show polLo oc.fl 75 = _; rw [h.t]; rfl
theorem pR_pure [h : OrcF oc] : (ELo oc).pol 110 = .pure := by show polLo oc.fl 110 = _; rw [h.t]; rfl
theorem pJ_orc [h : OrcF oc] : (ELo oc).pol 28 = .orc := by show polLo oc.fl 28 = _; rw [h.t]; rfl
theorem pW_orc [h : OrcF oc] : (ELo oc).pol 41 = .orc := by show polLo oc.fl 41 = _; rw [h.t]; rfl
end
theorem frzB_Lo (oc : Orc) : ((ELo oc).frzB 22 = false) ∧ ((ELo oc).frzB 23 = false) ∧ ((ELo oc).frzB 41 = false) ∧ ((ELo oc).frzB 54 = true) ∧ ((ELo oc).frzB 59 = false) ∧ ((ELo oc).frzB 65 = false) ∧ ((ELo oc).frzB 79 = false) ∧ ((ELo oc).frzB 82 = false) ∧ ((ELo oc).frzB 88 = false) ∧ ((ELo oc).frzB 118 = false) ∧ ((ELo oc).frzB 141 = false) ∧ ((ELo oc).frzB 175 = false) ∧ ((ELo oc).frzB 181 = false) ∧ ((ELo oc).frzB 187 = false) ∧ ((ELo oc).frzB 202 = false) := ⟨rfl, rfl, rfl, rfl, rfl, rfl, rfl, rfl, rfl, rfl, rfl, rfl, rfl, rfl, rfl⟩
attribute [go_sem] frzB_Lo


theorem eqLo_ok (t : TypeId) (ks : List EK) (h : eqLo t = some ks) : EqOK Tryz.prog t ks := by
  unfold eqLo at h
  split at h <;> first | (cases h; done) | (cases h; exact eqKinds_ok (by kernel_rfl))
theorem noNG_all : (Tryz.prog.funcs.toList.all fun fn => !(fn.name == "runtime.NumGoroutine")) = true := by kernel_rfl
theorem ELo_ok (oc : Orc) (ho : ∀ f args x, oc.o f args = some x → OrcOK Tryz.prog f args x) : ProgOK (ELo oc) where
  eq := eqLo_ok
  mixed := by show Tryz.prog.follows .mixedOrders = true; kernel_rfl
  noNG := fun f fn h => by
    have := List.all_eq_true.1 noNG_all fn (Array.mem_toList_iff.2 (Array.mem_of_getElem? h))
    simpa using this
  orc := ho

/-- The call gives true. -/
def isT (x : Option (AV × AHeap)) : Bool := match x with
  | some (.v (.bool true), _) => true
  | _ => false
theorem isT_ok {x : Option (AV × AHeap)} (h : isT x = true) : ∃ H, x = some (.v (.bool true), H) := by
  unfold isT at h
  split at h
  · exact ⟨_, rfl⟩
  · cases h
end Go.Am
