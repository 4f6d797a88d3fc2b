/- Rules for calls in a region. -/
import Derived.Test.YtoeemmlfcnokiaaGreatAmW
set_option linter.all false
set_option linter.deprecated false
namespace Go.Am

theorem putS_bind {R : Type} (tm : Slots) (dst : Option Tmp) (x : AV) (k : Slots → Option R) {tm1 : Slots} (h : putS tm dst x some = some tm1) : putS tm dst x k = k tm1 := by
  cases dst with
  | none => simp only [putS, Option.some.injEq] at h ⊢; rw [h]
  | some d =>
    obtain ⟨n, c⟩ := tm
    simp only [putS, Slots.set] at h ⊢
    split at h
    · simp only [setR_eq] at h ⊢
      split at h
      · rename_i h1
        rw [if_pos h1]
        split at h
        · rename_i h2
          rw [if_pos h2]
          simp only [Option.some.injEq] at h
          rw [h]
        · cases h
      · cases h
    · simp only [Option.some.injEq] at h
      rw [h]

theorem hand_pure (H : AHeap) (lo : Nat) (G : AHeap) (x : AV) : hand H lo false G x = some (renV H lo G.next [] frzDepth x, G) := by
  simp [hand, nodupN, blksS_eq, blksA, renVS_eq, pushS_eq, pushAll]

section
variable {E : Env} {ys : List (Nat × LRec)} {lo : Nat} {s : St} {ops rest : List Oper} {o : Oper} {K : St → List Tr → Prop} {f : FuncId} {args : List AV} {tm1 : Slots}

/-- A call of a pure function on values without names. r: its result, frozen. -/
theorem WO.pure {r : AV} (hw : wantedA o ops s.tm = some true) (hp : plan E o (aev s.tm) = .call f args) (hpol : E.pol f = .pure) (hnf : args.all nf = true)
    (hc : WC E [] 0 f args .empty fun r0 H' => ∀ b, renV H' 0 b [] frzDepth r0 = r) (hset : putS s.tm o.dst r some = some tm1) (hk : WO E ys lo ops rest ⟨tm1, s.H⟩ fun s' trs => K s' (⟨0, 0, 0⟩ :: trs)) : WO E ys lo ops (o :: rest) s K := by
  obtain ⟨n, r0, H', h1, h2⟩ := hc
  refine WO.step (m := n) (s1 := ⟨tm1, s.H⟩) (tr := ⟨0, 0, 0⟩) ?_ hk
  have h1' : (callF E (exec E n) ys lo).call false 0 f args .empty = some (r0, H') := h1
  have hz : newBits s.H.next (s.H.next - s.H.next) = 0 := by simp [newBits]
  simp only [stepOp, hw, hp, runPlan, hpol, hnf, if_true, h1', hand_pure, h2, hz, fNat_eq]
  rw [putS_bind _ _ _ _ hset]
/-- A call of a function that works on the shared heap. -/
theorem WO.eff {r : AV} {H' : AHeap} (hw : wantedA o ops s.tm = some true) (hp : plan E o (aev s.tm) = .call f args) (hpol : E.pol f = .eff)
    (hc : WC E ys lo f args s.H fun r0 H0 => r0 = r ∧ H0 = H') (hset : putS s.tm o.dst r some = some tm1) (hk : WO E ys lo ops rest ⟨tm1, H'⟩ fun s' trs => K s' (⟨0, 0, 2⟩ :: trs)) : WO E ys lo ops (o :: rest) s K := by
  obtain ⟨n, r0, H0, h1, rfl, rfl⟩ := hc
  refine WO.step (m := n) (s1 := ⟨tm1, H0⟩) (tr := ⟨0, 0, 2⟩) ?_ hk
  have h1' : (callF E (exec E n) ys lo).call true lo f args s.H = some (r0, H0) := h1
  simp only [stepOp, hw, hp, runPlan, hpol, h1']
  rw [putS_bind _ _ _ _ hset]
end

end Go.Am
