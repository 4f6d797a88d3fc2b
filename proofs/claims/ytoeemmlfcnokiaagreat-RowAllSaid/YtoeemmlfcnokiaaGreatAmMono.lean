/- More fuel gives the same. -/
import Derived.Test.YtoeemmlfcnokiaaGreatAmEq
set_option linter.all false
set_option linter.deprecated false
namespace Go.Am

theorem row8_id {R : Type} (l : List AV) (k : List AV → List AV → R) : row8 l k = k (row8 l fun a _ => a) (row8 l fun _ b => b) := by
  unfold row8
  dsimp only
  split <;> rfl
def rows8P : Nat → List AV → List (List AV)
  | 0, _ => []
  | m + 1, l => (row8 l fun a _ => a) :: rows8P m (row8 l fun _ b => b)
theorem rows8_id {R : Type} (m : Nat) : ∀ (l : List AV) (k : List (List AV) → R), rows8 m l k = k (rows8P m l) := by
  induction m with
  | zero => intro l k; rfl
  | succ m ih =>
    intro l k
    simp only [rows8]
    rw [row8_id, ih]
    rfl
/-- The slots at a call. -/
def Slots.of (n : Nat) (args : List AV) : Slots := ⟨n, rows8P ((n + 7) / 8) args⟩
theorem Slots.mk'_of {R : Type} (n : Nat) (args : List AV) (k : Slots → R) : Slots.mk' n args k = k (Slots.of n args) := by
  unfold Slots.of Slots.mk'
  rw [rows8_id]

def GoLe (go go' : Run) : Prop := ∀ rd ys lo c s r, go rd ys lo c s = some r → go' rd ys lo c s = some r

theorem setAll_mono {R : Type} (ps : List (Tmp × AV)) : ∀ (tm : Slots) {k k' : Slots → Option R} {r : R}, (∀ tm r, k tm = some r → k' tm = some r) → setAll tm ps k = some r → setAll tm ps k' = some r := by
  induction ps with
  | nil => intro tm k k' r hk h; exact hk _ _ h
  | cons p ps ih =>
    intro tm k k' r hk h
    obtain ⟨t, x⟩ := p
    obtain ⟨n, c⟩ := tm
    simp only [setAll, Slots.set] at h ⊢
    split at h
    · simp only [setR_eq] at h ⊢
      split at h
      · rename_i h1
        rw [if_pos h1]
        split at h
        · rename_i h2
          rw [if_pos h2]
          exact ih _ hk h
        · cases h
      · cases h
    · exact ih _ hk h

section
variable {E : Env} {go go' : Run} (h : GoLe go go')
include h

theorem callG_mono {ys : List (Nat × LRec)} {lo : Nat} {f : FuncId} {args : List AV} {H : AHeap} {r : AV × AHeap} (hr : callG E go ys lo f args H = some r) : callG E go' ys lo f args H = some r := by
  unfold callG at hr ⊢
  simp only [fL_eq fH_eq, Slots.mk'_of] at hr ⊢
  split at hr
  · cases hr
  · rename_i fn _
    split at hr
    · cases hr
    · rename_i body hb
      split at hr
      · cases hr
      · rename_i hlen
        rw [if_neg hlen]
        cases hg : go false ys lo body ⟨Slots.of fn.ntmps args, H⟩ with
        | none => rw [hg] at hr; cases hr
        | some q => rw [hg] at hr; rw [h _ _ _ _ _ _ hg]; exact hr

theorem yieldG_mono {ys : List (Nat × LRec)} {lo k : Nat} {args : List AV} {H : AHeap} {r : AV × AHeap} (hr : yieldG go ys lo k args H = some r) : yieldG go' ys lo k args H = some r := by
  unfold yieldG at hr ⊢
  split at hr
  · cases hr
  · rename_i p rec hf
    split at hr
    · split at hr
      · rename_i hl
        rw [if_pos hl]
        refine setAll_mono _ _ (fun tm r hr => ?_) hr
        cases hg : go true [] lo rec.assign ⟨tm, H⟩ with
        | none => rw [hg] at hr; cases hr
        | some q =>
          obtain ⟨x, s1⟩ := q
          rw [hg] at hr
          rw [h _ _ _ _ _ _ hg]
          cases x with
          | normal =>
            simp only at hr ⊢
            cases hg2 : go true [] lo rec.body ⟨s1.tm, { s1.H with js := s1.H.js.set k .busy }⟩ with
            | none => rw [hg2] at hr; cases hr
            | some q2 => rw [hg2] at hr; rw [h _ _ _ _ _ _ hg2]; exact hr
          | exit id => cases hr
          | ret => cases hr
      · cases hr
    · cases hr

theorem runPlan_mono {ys : List (Nat × LRec)} {lo : Nat} {H : AHeap} {p : Plan} {r : AV × AHeap × Tr} (hr : runPlan E (callF E go ys lo) lo H p = some r) : runPlan E (callF E go' ys lo) lo H p = some r := by
  have hc : ∀ {y : Bool} {l : Nat} {f : FuncId} {args : List AV} {H : AHeap} {q : AV × AHeap}, (callF E go ys lo).call y l f args H = some q → (callF E go' ys lo).call y l f args H = some q := fun hq => callG_mono h hq
  have hy : ∀ {k : Nat} {args : List AV} {H : AHeap} {q : AV × AHeap}, (callF E go ys lo).yield k args H = some q → (callF E go' ys lo).yield k args H = some q := fun hq => yieldG_mono h hq
  cases p with
  | bad => cases hr
  | prim rd k => exact hr
  | yield k args =>
    simp only [runPlan] at hr ⊢
    split at hr
    · cases hr
    · rename_i hq
      rw [hy hq]
      exact hr
  | call f args =>
    simp only [runPlan] at hr ⊢
    split at hr
    · split at hr
      · cases hr
      · rename_i hq
        rw [hc hq]
        exact hr
    · split at hr
      · rename_i hn
        rw [if_pos hn]
        split at hr
        · cases hr
        · rename_i hq
          rw [hc hq]
          exact hr
      · rename_i hn
        rw [if_neg hn]
        split at hr
        · cases hr
        · rename_i hq
          rw [hc hq]
          exact hr

theorem stepOp_mono {ys : List (Nat × LRec)} {lo : Nat} {ops : List Oper} {o : Oper} {s : St} {r : St × Tr} (hr : stepOp E (callF E go ys lo) lo ops o s = some r) : stepOp E (callF E go' ys lo) lo ops o s = some r := by
  unfold stepOp at hr ⊢
  split at hr
  · cases hr
  · exact hr
  · split at hr
    · cases hr
    · rename_i hq
      rw [runPlan_mono h hq]
      exact hr

theorem runOps_mono {ys : List (Nat × LRec)} {lo : Nat} {ops rest : List Oper} {s : St} {r : St × List Tr} (hr : runOps E (callF E go ys lo) lo ops rest s = some r) : runOps E (callF E go' ys lo) lo ops rest s = some r := by
  induction rest generalizing s r with
  | nil => exact hr
  | cons o rest ih =>
    simp only [runOps] at hr ⊢
    split at hr
    · cases hr
    · rename_i hq
      rw [stepOp_mono h hq]
      dsimp only
      split at hr
      · cases hr
      · rename_i hq2
        rw [ih hq2]
        exact hr

theorem execF_mono : GoLe (execF E go) (execF E go') := by
  intro rd ys lo c s r hr
  cases c with
  | region id ops draw =>
    simp only [execF] at hr ⊢
    split at hr
    · cases hr
    · rename_i hq
      rw [runOps_mono h hq]
      exact hr
  | seq a b =>
    simp only [execF] at hr ⊢
    split at hr
    · cases hr
    · rename_i hq
      rw [h _ _ _ _ _ _ hq]
      exact h _ _ _ _ _ _ hr
    · rename_i hne hq
      rw [h _ _ _ _ _ _ hq]
      cases r with | mk x s' => simp only [Option.some.injEq, Prod.mk.injEq] at hr; obtain ⟨rfl, rfl⟩ := hr; simp_all
  | cond c a b =>
    simp only [execF] at hr ⊢
    split at hr
    · exact h _ _ _ _ _ _ hr
    · exact h _ _ _ _ _ _ hr
    · cases hr
  | block id c =>
    simp only [execF] at hr ⊢
    split at hr
    · rename_i hq
      rw [h _ _ _ _ _ _ hq]
      exact hr
    · rename_i hne
      rw [h _ _ _ _ _ _ hr]
      split
      · rename_i hq; simp only [Option.some.injEq] at hq; subst hq; exact (hne _ _ hr).elim
      · rfl
  | loop c =>
    simp only [execF] at hr ⊢
    split at hr
    · cases hr
    · rename_i hq
      rw [h _ _ _ _ _ _ hq]
      exact h _ _ _ _ _ _ hr
    · rename_i hne hq
      rw [h _ _ _ _ _ _ hq]
      cases r with | mk x s' => simp only [Option.some.injEq, Prod.mk.injEq] at hr; obtain ⟨rfl, rfl⟩ := hr; simp_all
  | scope c => exact h _ _ _ _ _ _ hr
  | rangeFunc f params assign body =>
    simp only [execF] at hr ⊢
    split at hr
    · cases hr
    · rename_i hrd
      rw [if_neg hrd]
      split at hr
      · split at hr
        · split at hr
          · cases hr
          · rename_i hq
            rw [callG_mono h hq]
            exact hr
        · cases hr
      · cases hr
  | skip => exact hr
  | label l => exact hr
  | exit id => exact hr
  | goto l => exact hr
  | ret => exact hr
  | refuse w => exact hr
end

theorem exec_succ (E : Env) (n : Nat) : GoLe (exec E n) (exec E (n + 1)) := by
  induction n with
  | zero => intro rd ys lo c s r h; simp [exec] at h
  | succ n ih => exact execF_mono ih
theorem exec_mono {E : Env} {n m : Nat} (h : n ≤ m) : GoLe (exec E n) (exec E m) := by
  induction h with
  | refl => intro rd ys lo c s r h; exact h
  | step _ ih => intro rd ys lo c s r h; exact exec_succ E _ _ _ _ _ _ _ (ih _ _ _ _ _ _ h)
theorem acall_mono {E : Env} {ys : List (Nat × LRec)} {n m lo : Nat} (h : n ≤ m) {f : FuncId} {args : List AV} {H : AHeap} {r : AV × AHeap} (hr : acall E ys n lo f args H = some r) : acall E ys m lo f args H = some r :=
  callG_mono (exec_mono h) hr

end Go.Am
