/- Proved here: A screen of any rows, of any size, with any cursor: cut, filled, clamped: the program tells what the document's screen tells. Conditions: none beyond the row's own. The frame of the proof of 'Rows.ScreenOfSaid' ('rotulus/..ScreenOf'), printed by a program of this claim's writer; what came in is opened by AmF. -/
import Derived.Test.YtoeemmlfcnokiaaGreatRows
import Derived.WalkKit
import Derived.ProofKit
import Derived.OpenShut
import Derived.ShutString
import Derived.ChangeOld
import Derived.Below
import Derived.Test.YtoeemmlfcnokiaaGreatScr19
import Derived.Test.YtoeemmlfcnokiaaGreatAmF
set_option linter.all false
set_option linter.deprecated false
set_option linter.all false
set_option linter.deprecated false
namespace Go.Proofs.YtoeemmlfcnokiaaGreat.screenOf
open Go.ChangeShapes Go.WideShapes Go.ChangeAt Go.RowKit
open Go.ChangeMaps (open_string shut_string)
set_option linter.unusedVariables false

theorem own : ownKnob Tryz.prog.godebug = none := by kernel_rfl
theorem laidOut : laidOutB Tryz.prog = true := by kernel_rfl

set_option maxRecDepth 100000 in
theorem lifted (os : Os) (started : os.Started) (H : Type) (enc : TypeId × Value → H) :
    ReturnsInHanded {} Tryz.checked os 13 .any (Rows.screenOfSpec.pre6 enc Tryz.prog Tryz.f13 Rows.screenOfRow.domain false) (Rows.screenOfSpec.post enc Tryz.prog Tryz.f13 false true false false) := by
  refine returnsInHanded_of_change (C := Tryz.checked) own started (by kernel_rfl) Tryz.func13
    (ChangeSpec.witness6 (enc := enc) (C := Tryz.checked) false ⟨#[], #[.slice none 0 0, .int .i64 0, .int .i64 0, .agg #[.int .i64 0, .int .i64 0], .int .i64 0, .agg #[.int .i64 0, .int .i32 0, .slice none 0 0, .string ByteArray.empty]], []⟩ 8 (by kernel_rfl) (by kernel_rfl) (by kernel_rfl) (by kernel_rfl)) ?_
  intro W base args ds gs before hval0 hW hcnd _
  have hval : ∀ (j : Nat) t v, Tryz.f13.params[j]? = some t → args[j]? = some v → Value.okWide Tryz.prog W .any base t v := hval0
  have hW' := hW
  obtain ⟨p, q, hA0, hV, rfl, hfz, hnd⟩ := hW
  have hA : DataW.TrodAll enc Tryz.prog W 0 (fun _ => true) true Tryz.f13.params.toList args.toList ds p := hA0
  rw [Tryz.params13] at hA hval
  obtain ⟨v0, vs0, d0, ds0, p0, q0, hargs, rfl, rfl, h0, r0⟩ := trodAll_cons hA
  obtain ⟨v1, vs1, d1, ds1, p1, q1, rfl, rfl, rfl, h1, r1⟩ := trodAll_cons r0
  obtain ⟨v2, vs2, d2, ds2, p2, q2, rfl, rfl, rfl, h2, r2⟩ := trodAll_cons r1
  obtain ⟨v3, vs3, d3, ds3, p3, q3, rfl, rfl, rfl, h3, r3⟩ := trodAll_cons r2
  obtain ⟨v4, vs4, d4, ds4, p4, q4, rfl, rfl, rfl, h4, r4⟩ := trodAll_cons r3
  obtain ⟨v5, vs5, d5, ds5, p5, q5, rfl, rfl, rfl, h5, r5⟩ := trodAll_cons r4
  obtain ⟨rfl, rfl, rfl⟩ := trodAll_nil r5
  obtain rfl : args = #[v0, v1, v2, v3, v4, v5] := by cases args; simp_all
  obtain ⟨rfl, rfl⟩ := trodVars_none hV
  have k0 := h0
  have lt0 : ∀ x ∈ p0, x.block < W.heap.size := by obtain ⟨m, hm⟩ := k0; exact DataW.trod_lt m _ _ _ hm
  obtain ⟨b0, len0, cap0, rfl⟩ := okWide_slice Tryz.underlying68 (hval 0 68 v0 rfl rfl)
  obtain ⟨as0, hw0, hfr0⟩ : ∃ u, Go.Am.Wd Tryz.prog 6 68 u ∧ Go.Am.FRL W [.slice b0 len0 cap0] u := by
    obtain ⟨fuel, hf⟩ := h0
    exact Go.Am.fr_trod 6 68 (by kernel_rfl) fuel _ _ hf
  have k1 := h1
  have lt1 : ∀ x ∈ p1, x.block < W.heap.size := by obtain ⟨m, hm⟩ := k1; exact DataW.trod_lt m _ _ _ hm
  obtain ⟨a1, rfl, rfl, rfl, w1⟩ := open_int Tryz.underlying3 (hval 1 3 v1 rfl rfl) h1
  have k2 := h2
  have lt2 : ∀ x ∈ p2, x.block < W.heap.size := by obtain ⟨m, hm⟩ := k2; exact DataW.trod_lt m _ _ _ hm
  obtain ⟨a2, rfl, rfl, rfl, w2⟩ := open_int Tryz.underlying3 (hval 2 3 v2 rfl rfl) h2
  have k3 := h3
  have lt3 : ∀ x ∈ p3, x.block < W.heap.size := by obtain ⟨m, hm⟩ := k3; exact DataW.trod_lt m _ _ _ hm
  obtain ⟨c3, rfl, hc3⟩ := okWide_struct Tryz.underlying73 (hval 3 73 v3 rfl rfl)
  obtain ⟨as3, hw3, hfr3⟩ : ∃ u, Go.Am.Wd Tryz.prog 6 73 u ∧ Go.Am.FRL W c3.toList u := by
    obtain ⟨fuel, hf⟩ := h3
    exact Go.Am.fr_trod 6 73 (by kernel_rfl) fuel _ _ hf
  have k4 := h4
  have lt4 : ∀ x ∈ p4, x.block < W.heap.size := by obtain ⟨m, hm⟩ := k4; exact DataW.trod_lt m _ _ _ hm
  obtain ⟨a4, rfl, rfl, rfl, w4⟩ := open_int Tryz.underlying3 (hval 4 3 v4 rfl rfl) h4
  have k5 := h5
  have lt5 : ∀ x ∈ p5, x.block < W.heap.size := by obtain ⟨m, hm⟩ := k5; exact DataW.trod_lt m _ _ _ hm
  obtain ⟨c5, rfl, hc5⟩ := okWide_struct Tryz.underlying35 (hval 5 35 v5 rfl rfl)
  obtain ⟨as5, hw5, hfr5⟩ : ∃ u, Go.Am.Wd Tryz.prog 6 35 u ∧ Go.Am.FRL W c5.toList u := by
    obtain ⟨fuel, hf⟩ := h5
    exact Go.Am.fr_trod 6 35 (by kernel_rfl) fuel _ _ hf
  clear hA0 hval0
  have hcall : Calls Tryz.prog 13 #[.slice b0 len0 cap0, .int .i64 a1, .int .i64 a2, .agg c3, .int .i64 a4, .agg c5] W fun e w' => e = .returned (.bool true) ∧ Below W.heap.size W w' := by
    refine Go.Am.law_calls Go.Am.EZ_ok (Go.Am.ScreenOf_run as0 hw0 a1 w1 a2 w2 as3 hw3 a4 w4 as5 hw5) ⟨rfl, fun i hi => ?_⟩
    match i, hi with
    | 0, _ => exact (hfr0.2 0 (Nat.zero_lt_succ 0)).2
    | 1, _ => exact Go.Am.FR.v rfl
    | 2, _ => exact Go.Am.FR.v rfl
    | 3, _ => exact hfr3.agg
    | 4, _ => exact Go.Am.FR.v rfl
    | 5, _ => exact hfr5.agg
    | i + 6, hi => exact absurd hi (by simp)
  refine hcall.mono fun e W' ⟨he, bel⟩ => ?_
  subst he
  exact ⟨_, rfl, _, _, _, [], _, [], hW', trodAll_mk1 (shut_bool Tryz.underlying4 _), (trodAll_cons_mk (Below.trod laidOut (by kernel_rfl) (of_decide_eq_true (by kernel_rfl)) k0 bel lt0) (trodAll_cons_mk (Below.trod laidOut (by kernel_rfl) (of_decide_eq_true (by kernel_rfl)) k1 bel lt1) (trodAll_cons_mk (Below.trod laidOut (by kernel_rfl) (of_decide_eq_true (by kernel_rfl)) k2 bel lt2) (trodAll_cons_mk (Below.trod laidOut (by kernel_rfl) (of_decide_eq_true (by kernel_rfl)) k3 bel lt3) (trodAll_cons_mk (Below.trod laidOut (by kernel_rfl) (of_decide_eq_true (by kernel_rfl)) k4 bel lt4) (trodAll_cons_mk (Below.trod laidOut (by kernel_rfl) (of_decide_eq_true (by kernel_rfl)) k5 bel lt5) trodAll_mk0)))))), rfl, bel.frame _, fun h => by cases h⟩

theorem over : Rows.screenOfRow.holds Tryz.pinned (OpenSpec.ofChange Rows.screenOfSpec) :=
  OpenClaim.holds_of_wide 13 Tryz.f13 rfl rfl rfl rfl rfl rfl rfl ⟨rfl, rfl, rfl, rfl, rfl⟩ rfl rfl rfl rfl rfl (by kernel_rfl) Tryz.func13 (by kernel_rfl)
    (of_decide_eq_true (by kernel_rfl)) (by unfold Func.isWrapper; first | (rw [if_pos (by decide +kernel)]; kernel_rfl) | (rw [if_neg (by decide +kernel)]; exact ⟨rfl, rfl⟩))
    (fun os started H enc _ => lifted os started H enc)

/-- THE STATEMENT -/
theorem proved : Rows.ScreenOfSaid := over
#print axioms proved
end Go.Proofs.YtoeemmlfcnokiaaGreat.screenOf
