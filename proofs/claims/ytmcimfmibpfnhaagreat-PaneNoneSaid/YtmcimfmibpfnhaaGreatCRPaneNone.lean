/- Proved here: no pane: nothing is told of it. Conditions: none beyond the row's own. The frame of the proof of 'Rows.PaneNoneSaid' ('rotulus/..PaneNone'). -/
import Derived.Test.YtmcimfmibpfnhaaGreatRows
import Derived.WalkKit
import Derived.ProofKit
import Derived.Below
import Derived.ChangeOld
import Derived.OpenShut
import Derived.ShutString
import Derived.Test.YtmcimfmibpfnhaaGreatRPnN
import Derived.Test.YtmcimfmibpfnhaaGreatAmC
set_option linter.all false
set_option linter.deprecated false
namespace Go.Proofs.YtmcimfmibpfnhaaGreat.paneNone
open Go.ChangeShapes Go.WideShapes Go.ChangeAt Go.RowKit
open Go.ChangeMaps (open_string shut_string)
set_option linter.unusedVariables false      -- a walk need not use every 'w<i>' (that an integer argument fits its kind)

theorem own : ownKnob Tryz.prog.godebug = none := by kernel_rfl

/-! ### STEP 1: THE WALK: the Go text returns true. 'Grown w w'': the world has at most new blocks (Derived/RowKit3.lean). Part the cases AHEAD of 'go_enter' where a test parts the walk; take each callee by a contract of your own. -/
theorem walk  (w : World) :
    Calls Tryz.prog 21 #[] w fun e w' => e = .returned (.bool true) ∧ Below w.heap.size w w' := by
  refine Go.Am.law_calls Go.Am.EF_ok Go.Am.PaneNone_run ⟨rfl, fun i hi => ?_⟩
  exact absurd hi (by simp)

/-! ### THE ROW's STEP: WRITTEN OUT: LEAVE IT -/
set_option maxRecDepth 100000 in
theorem lifted (os : Os) (started : os.Started) (H : Type) (enc : TypeId × Value → H) :
    ReturnsInHanded {} Tryz.checked os 21 .any (Rows.paneNoneSpec.pre6 enc Tryz.prog Tryz.f21 Rows.paneNoneRow.domain false) (Rows.paneNoneSpec.post enc Tryz.prog Tryz.f21 false true false false) := by
  refine returnsInHanded_of_change (C := Tryz.checked) own started (by kernel_rfl) Tryz.func21
    (ChangeSpec.witness6 (enc := enc) (C := Tryz.checked) false ⟨#[], #[], []⟩ 8 (by kernel_rfl) (by kernel_rfl) (by kernel_rfl) (by kernel_rfl)) ?_
  intro W base args ds gs before hval0 hW hcnd _
  have hval : ∀ (j : Nat) t v, Tryz.f21.params[j]? = some t → args[j]? = some v → Value.okWide Tryz.prog W .any base t v := hval0
  have hW' := hW
  obtain ⟨p, q, hA0, hV, rfl, hfz, hnd⟩ := hW
  have hA : DataW.TrodAll enc Tryz.prog W 0 (fun _ => true) true Tryz.f21.params.toList args.toList ds p := hA0
  rw [Tryz.params21] at hA hval
  obtain ⟨rfl, rfl, rfl⟩ := trodAll_none hA
  obtain ⟨rfl, rfl⟩ := trodVars_none hV
  clear hA0 hval0
  simp only [List.append_nil] at hW'
  refine (walk  W).mono fun e W' ⟨he, hg⟩ => ?_
  subst he
  exact ⟨_, rfl, _, _, _, [], _, [], hW', (trodAll_cons_mk (shut_bool Tryz.underlying4 _) trodAll_mk0), rfl, rfl, hg.frame _, fun h => by cases h⟩

theorem nm : Tryz.pinned.checked.prog.funcNamed Rows.paneNoneRow.func = some 21 := by kernel_rfl
theorem inst : Tryz.f21.isInstance Tryz.pinned.checked.prog Rows.paneNoneRow.origin Rows.paneNoneRow.targs := of_decide_eq_true (by kernel_rfl)
theorem wrap : Tryz.f21.isWrapper Tryz.pinned.checked.prog Rows.paneNoneRow.wrapper Rows.paneNoneRow.mainSum := by unfold Func.isWrapper; first | (rw [if_pos (by decide +kernel)]; kernel_rfl) | (rw [if_neg (by decide +kernel)]; exact ⟨rfl, rfl⟩)
set_option maxRecDepth 100000 in
set_option maxHeartbeats 0 in
theorem facts : joinedFacts Tryz.pinned.checked.prog 21 Tryz.f21 Rows.paneNoneSpec Rows.paneNoneRow = true := by
  unfold joinedFacts
  simp only [Bool.and_eq_true]
  repeat' apply And.intro
  all_goals as_aux_lemma => kernel_rfl
theorem over : Rows.paneNoneRow.holds Tryz.pinned (OpenSpec.ofChange Rows.paneNoneSpec) :=
  OpenClaim.holds_of_wide 21 Tryz.f21 rfl rfl rfl rfl rfl rfl rfl ⟨rfl, rfl, rfl, rfl, rfl⟩ rfl rfl rfl rfl rfl nm Tryz.func21 facts inst wrap
    (fun os started H enc _ => lifted os started H enc)

/-- ████ THE STATEMENT ████ -/
theorem proved : Rows.PaneNoneSaid :=
  over
#print axioms proved
end Go.Proofs.YtmcimfmibpfnhaaGreat.paneNone
