/- Contexts that are turned; the ways back from a call; what a plan that calls comes from. -/
import Derived.Test.YtoeemmlfcnokiaaGreatAmRun5
set_option linter.all false
set_option linter.deprecated false
namespace Go.Am

def Ctx.turn (C : Ctx) (w' : World) (js' : List LS) (X' : Nat → Prop) : Ctx := { C with w := w', js := js', X := X' }
section
variable {C : Ctx} {w' : World} {js' : List LS} {X' : Nat → Prop}
theorem turn_av (hX : ∀ b, X' b → C.X b) (b : Nat) (h : (C.turn w' js' X').av b) : C.av b := by
  rcases h with (h | h) | h
  · exact .inl (.inl (hX b h))
  · exact .inl (.inr h)
  · exact .inr h
theorem turn_vr (hs : w'.heap.size = C.w.heap.size) (hX : ∀ b, X' b → C.X b) (hk : ∀ b, ¬ C.av b → w'.heap[b]? = C.w.heap[b]?) {x : AV} {v : Value} (h : VR C x v) : VR (C.turn w' js' X') x v :=
  VR.turn (C := C) (C' := C.turn w' js' X') rfl rfl rfl rfl (fun b _ hn => ⟨hk b hn, fun h => hn (turn_av hX b h)⟩) (Nat.le_of_eq hs.symm) h
theorem turn_good (g : Good C) (hs : w'.heap.size = C.w.heap.size) (hX : ∀ b, X' b → C.X b) (hk : ∀ b, ¬ C.av b → w'.heap[b]? = C.w.heap[b]?)
    (hblk : ∀ n b, C.get n = some b → w'.heap[(C.β n).1]? = C.w.heap[(C.β n).1]?) (hjl : js'.length = C.js.length)
    (hlp : ∀ (k l : Nat) (r : Loop) (s : LS), C.lp[k]? = some (l, r) → js'[k]? = some s → LoopAt w' l r s) : Good (C.turn w' js' X') where
  blk := fun n b h => BR.turn (C := C) (C' := C.turn w' js' X') rfl rfl rfl rfl (fun b _ hn => ⟨hk b hn, fun h => hn (turn_av hX b h)⟩) (Nat.le_of_eq hs.symm) (g.blk n b h) (hblk n b h)
  inj := g.inj
  notX := fun n b h hx => g.notX n b h (hX _ hx)
  born := g.born
  xlt := fun b hb => by show b < w'.heap.size; rw [hs]; exact g.xlt b (hX b hb)
  lpn := hjl.trans g.lpn
  lp := hlp
  lpX := fun k l r h => ⟨fun hx => (g.lpX k l r h).1 (hX _ hx), (g.lpX k l r h).2⟩
  lpi := g.lpi
theorem turn_le {A : Ctx} (hA : Le A C) (ho : w'.os = C.w.os) (ht : w'.tape = C.w.tape) (hu : w'.output = C.w.output) (hs : w'.heap.size = C.w.heap.size) (hX : ∀ b, X' b → C.X b) (hAX : ∀ b, A.X b → X' b)
    (hk : ∀ b, ¬ C.av b → w'.heap[b]? = C.w.heap[b]?) (hx : ∀ b, A.X b → w'.heap[b]? = C.w.heap[b]?) : Le A (C.turn w' js' X') where
  os := ho.trans hA.os
  tape := ht.trans hA.tape
  output := hu.trans hA.output
  X := hAX
  size := by show _ ≤ w'.heap.size; rw [hs]; exact hA.size
  lp := hA.lp
  xkeep := fun b hb => (hx b hb).trans (hA.xkeep b hb)
  keep := fun b hb hn => by
    obtain ⟨h1, h2⟩ := hA.keep b hb hn
    exact ⟨(hk b h2).trans h1, fun h => h2 (turn_av hX b h)⟩
  born := hA.born
  ep := hA.ep
end

/-- The record of a loop over a function is turned. -/
theorem record_turn {C : Ctx} (g : Good C) {k l : Nat} {r : Loop} (hl : C.lp[k]? = some (l, r)) (o : Obj) (s : LS) (X' : Nat → Prop) (hX : ∀ b, X' b → C.X b) (hs : LoopAt (C.w.putObj l o) l r s) :
    Good (C.turn (C.w.putObj l o) (C.js.set k s) X') ∧ (∀ {x : AV} {v : Value}, VR C x v → VR (C.turn (C.w.putObj l o) (C.js.set k s) X') x v) ∧
    ∀ {A : Ctx}, Le A C → (∀ b, A.X b → X' b) → Le A (C.turn (C.w.putObj l o) (C.js.set k s) X') := by
  have hsz : (C.w.putObj l o).heap.size = C.w.heap.size := by simp [World.putObj]
  have hk : ∀ b, ¬ C.av b → (C.w.putObj l o).heap[b]? = C.w.heap[b]? := fun b hb => World.putObj_heap_other fun e => hb (.inl (.inr ⟨k, r, e ▸ hl⟩))
  refine ⟨turn_good g hsz hX hk (fun n b h => World.putObj_heap_other ((g.lpX k l r hl).2 n b h)) (by simp) (fun k' l' r' s' h1 h2 => ?_), fun h => turn_vr hsz hX hk h, fun {A} hA hAX => ?_⟩
  · by_cases hk' : k' = k
    · subst hk'
      rw [hl] at h1
      cases h1
      have hlt : k' < C.js.length := by rw [g.lpn]; exact (List.getElem?_eq_some_iff.1 hl).1
      rw [List.getElem?_set_self hlt] at h2
      cases h2
      exact hs
    · rw [List.getElem?_set_ne (fun e => hk' e.symm)] at h2
      have hne : l' ≠ l := fun e => hk' (g.lpi k' k l r' r (e ▸ h1) hl)
      exact (g.lp k' l' r' s' h1 h2).mono (World.putObj_heap_other hne) (Nat.le_of_eq hsz.symm)
  · exact turn_le hA rfl rfl rfl hsz hX hAX hk fun b hb => World.putObj_heap_other fun e => (g.lpX k l r hl).1 (e ▸ hX b (hAX b hb))

/-! The ways back. -/
/-- A callee on an empty heap. -/
def Ctx.bare (C : Ctx) : Ctx := { w := C.w, β := C.β, get := fun _ => none, born := fun _ => False, X := C.av, lp := [], js := [] }
theorem bare_av {C : Ctx} (b : Nat) : C.bare.av b ↔ C.av b := by
  constructor
  · rintro ((h | ⟨k, r, h⟩) | ⟨n, blk, h, _⟩)
    · exact h
    · simp [Ctx.bare] at h
    · simp [Ctx.bare] at h
  · exact fun h => .inl (.inl h)
theorem bare_good {C : Ctx} (g : Good C) : Good C.bare where
  blk := fun n b h => by simp [Ctx.bare] at h
  inj := fun n m b c h => by simp [Ctx.bare] at h
  notX := fun n b h => by simp [Ctx.bare] at h
  born := fun n b h => by simp [Ctx.bare] at h
  xlt := fun b h => g.av_lt h
  lpn := rfl
  lp := fun k l r s h => by simp [Ctx.bare] at h
  lpX := fun k l r h => by simp [Ctx.bare] at h
  lpi := fun k m l r q h => by simp [Ctx.bare] at h
theorem bare_hr (C : Ctx) : HR C.bare .empty := ⟨fun n => rfl, fun n => ⟨fun h => h.elim, fun h => by simp [AHeap.empty] at h⟩, rfl⟩

theorem back_bare {C C1 : Ctx} (g : Good C) (g1 : Good C1) (hle : Le C.bare C1) : Back C C1 0 where
  os := hle.os
  tape := hle.tape
  output := hle.output
  size := hle.size
  xkeep := fun b hb => hle.xkeep b (.inl (.inl hb))
  keep := fun b hb hn => hle.keep b hb fun h => hn ((bare_av b).1 h)
  av := fun b hb => ⟨.inl (.inl (hle.X b hb)), fun n blk _ h e => g1.notX n blk h (e ▸ hle.X b hb)⟩
  low := fun n b h => by omega
  born := fun n h => by omega
  blk := fun n b h => .inl (hle.xkeep _ (.inr ⟨n, b, h, rfl⟩))
  lp := fun k l r s h1 h2 => (g.lp k l r s h1 h2).mono (hle.xkeep l (.inl (.inr ⟨k, r, h1⟩))) hle.size

theorem back_shared {C C1 : Ctx} {lo : Nat} {ys : List (Nat × LRec)} {H' : AHeap} (g : Good C) (hb : ∀ n, C.born n ↔ n < lo) (h : After C C1 lo [] H') : Back C C1 lo := by
  have low : ∀ n b, n < lo → C.get n = some b → C1.get n = some b ∧ C1.β n = C.β n := fun n b hn hg => by
    have h1 : C1.get n = some b := (h.low n hn).trans hg
    obtain ⟨b0, e1, e2, e3⟩ := h.le.ep n b ((hb n).2 hn) h1
    rw [hg] at e1
    cases e1
    exact ⟨h1, (e3 rfl).2.2⟩
  refine { os := h.le.os, tape := h.le.tape, output := h.le.output, size := h.le.size, xkeep := h.le.xkeep, keep := h.le.keep, av := fun b hb' => ?_, low, born := fun n hn => (hb n).2 hn, blk := fun n b hg => ?_, lp := fun k l r s h1 h2 => ?_ }
  · rcases hb' with (hx | ⟨k, r, hl⟩) | ⟨n, blk, hg, rfl⟩
    · exact ⟨.inl (.inl (h.le.X b hx)), fun n blk _ hn e => h.good.notX n blk hn (e ▸ h.le.X b hx)⟩
    · exact ⟨.inl (.inr ⟨k, r, h.le.lp _ _ hl⟩), fun n blk _ hn => (h.good.lpX k b r (h.le.lp _ _ hl)).2 n blk hn⟩
    · have hn : n < lo := (hb n).1 (g.born n blk hg)
      obtain ⟨e1, e2⟩ := low n blk hn hg
      refine ⟨.inr ⟨n, blk, e1, by rw [e2]⟩, fun m blk' hm hg' e => ?_⟩
      rw [← e2] at e
      have := h.good.inj m n blk' blk hg' e1 e
      omega
  · exact .inr ⟨(hb n).1 (g.born n b hg), fun m hm => (hb m).1 hm, h.le.lp⟩
  · have hk : k < C.js.length := (List.getElem?_eq_some_iff.1 h2).1
    exact h.good.lp k l r s (h.le.lp _ _ h1) ((h.js k hk (by simp)).trans h2)

/-- Values without names, for a callee on an empty heap. -/
theorem nf_rel {C : Ctx} {x : AV} {v : Value} (hx : nf x = true) (h : VR C x v) : VR C.bare x v := by
  have fr : ∀ {y : AV} {u : Value}, FR C.w C.av y u → VR C.bare y u := fun h => .fr (h.weak fun b hb => (bare_av b).1 hb)
  cases x with
  | v a => obtain ⟨rfl, hp⟩ := h.v_inv; exact .fr (.v hp)
  | sl sz es => exact fr h.sl_inv
  | e0 => obtain ⟨a, rfl⟩ := h.e0_inv; exact .fr (.e0 a)
  | fp cs => exact fr h.fp_inv
  | dead => exact .fr (.dead v)
  | fn f caps =>
    cases caps with
    | nil => obtain ⟨vs, rfl, hl, _⟩ := h.fn_inv; exact .fn f vs hl (by simp)
    | cons _ _ => simp [nf] at hx
  | agg cs =>
    simp only [nf, List.all_eq_true] at hx
    obtain ⟨vs, rfl, hl, h1, hr⟩ := h.agg_inv
    refine .agg vs hl h1 fun i hi => ?_
    have hi' := hr i hi
    have hm := hx (cs.getD i .dead) (by simp [List.getD_eq_getElem?_getD, hi])
    revert hi' hm
    generalize cs.getD i .dead = y
    generalize vs.getD i undef = u
    intro hi' hm
    split at hm
    · obtain ⟨rfl, hp⟩ := hi'.v_inv; exact .fr (.v hp)
    · exact fr hi'.sl_inv
    · obtain ⟨a, rfl⟩ := hi'.e0_inv; exact .fr (.e0 a)
    · exact fr hi'.fp_inv
    · exact .fr (.dead u)
    · obtain ⟨vs', rfl, hl', _⟩ := hi'.fn_inv; exact .fn _ vs' hl' (by simp)
    · cases hm
  | os _ _ _ _ => simp [nf] at hx
  | op _ _ _ _ => simp [nf] at hx
  | tup _ => simp [nf] at hx
  | yl _ => simp [nf] at hx

end Go.Am
