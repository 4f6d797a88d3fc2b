/- What was proved in one environment serves in another. -/
import Derived.Test.YtmcimfmibpfnhaaGreatAmG
set_option linter.all false
set_option linter.deprecated false
namespace Go.Am
set_option linter.all false
theorem Did.any {C C' : Ctx} {lo : Nat} {ys : List (Nat × LRec)} {H : AHeap} (h : Did C C' lo ys H ⟨0, 0, 0⟩) (lo' : Nat) (ys' : List (Nat × LRec)) (H' : AHeap) : Did C C' lo' ys' H' ⟨0, 0, 0⟩ where
  le := h.le
  good := h.good
  X := h.X
  get := fun n hn => by rcases hn with hn | hn <;> simp at hn
  same := h.same
  js2 := fun h => by simp at h
  js := h.js
  low := fun n _ => (h.same n (by simp) (by simp)).1
  jsk := fun k _ _ => by rw [h.js (by simp)]
theorem orc_of_wc {E : Env} (hE : ProgOK E) {P : Program} (hP : E.P = P) {f : FuncId} {args : List AV} {x : AV} (hnf : args.all nf = true) (h : WC E [] 0 f args .empty fun r H => frzR H 0 r = x) : OrcOK P f args x := by
  subst hP
  obtain ⟨n, r, H', h1, h2⟩ := h
  have hh : hand H' 0 false .empty r = some (x, .empty) := by
    rw [hand_pure, renV_base _ _ _ 0]
    rw [show renV H' 0 0 [] frzDepth r = x from h2]
  have hz : newBits AHeap.empty.next (AHeap.empty.next - AHeap.empty.next) = 0 := by simp [newBits]
  refine ⟨?_, fun C vs g hA F hF m => ?_⟩
  · have h1' := h1
    unfold acall callG at h1'
    split at h1'
    · cases h1'
    · rename_i fn hfn
      split at h1'
      · cases h1'
      · rename_i body hb
        exact ⟨fn, body, hfn, hb⟩
  · obtain ⟨k1, _⟩ := call_ok (exec_ok hE n).1 h1 (bare_good g) (bare_hr C) (Nat.zero_le _) (nf_args hA hnf) (YRel.nil _) F hF m
    refine k1.mono ?_
    rintro e w' ⟨v, rfl, C1, rfl, hA1, _, hv⟩
    have hag : Agrees C .empty ⟨0, newBits AHeap.empty.next (AHeap.empty.next - AHeap.empty.next), 0⟩ := by
      rw [hz]
      exact ⟨fun n hn => by rcases hn with hn | hn | hn <;> simp at hn, fun hn => absurd rfl hn⟩
    obtain ⟨C2, h3, h4, h5⟩ := hand_did (lo := 0) (ys := []) hh (.inl rfl) g hA1.good (back_bare g hA1.good hA1.le) hA1.hr.get hag (fun m hm => absurd hm (Nat.not_lt_zero _)) hv
    rw [hz] at h4
    exact ⟨v, rfl, C2, h3, fun lo ys H _ => h4.any lo ys H, h5⟩
section
variable {E : Env} {ys : List (Nat × LRec)} {lo : Nat} {f : FuncId} {args : List AV} {H : AHeap} {x : AV}
/-- A call of a function whose answer was proved elsewhere. -/
theorem callR_orc (hp : E.pol f = .orc) (hnf : args.all nf = true) (h : E.orc f args = some x) : CallR E ys lo f args H x H ⟨0, 0, 0⟩ :=
  ⟨0, by simp only [runPlan, hp, hnf, if_true, h]⟩
end
end Go.Am
