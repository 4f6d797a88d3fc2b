
/- Slices of cells in a slice, each growing by itself. -/
import Derived.Test.YtmcimfmibpfnhaaGreatRLinY
set_option linter.all false
set_option linter.deprecated false
namespace Go.Am
variable {oc : Orc} [OrcI oc]
open Go.Proofs
set_option maxRecDepth 8000
set_option maxHeartbeats 1000000
theorem OwS.onN {H H' : AHeap} {base elem sz : Nat} {x : AV} {es : List (List AV)} (h : OwS H base elem sz x es) (hn : H.next ≤ H'.next) (hg : ∀ k, nmO x k → H'.get k = H.get k) : OwS H' base elem sz x es := by
  rcases h with h | ⟨n, e, rfl, hb, hl, hget⟩
  · exact .inl h
  · exact .inr ⟨n, e, rfl, hb, Nat.lt_of_lt_of_le hl hn, by rw [hg n ⟨_, _, _, rfl⟩]; exact hget⟩
theorem rdTr_Sl {sz : Nat} {x : AV} {es : List (List AV)} (h : Sl sz x es) : rdTr x = ⟨0, 0, 0⟩ := by rcases h with rfl | ⟨rfl, rfl | rfl⟩ <;> rfl

/-- One more, by a block of its own. -/
theorem OwS.push1 (E : Env) (lo : Nat) {H : AHeap} {t elem bytes sz base : Nat} {x : AV} {es : List (List AV)} (ho : OwS H base elem sz x es) (h : appInfo E.P t = some (elem, bytes, sz)) (hlo : lo ≤ base) (hbn : base ≤ H.next) (hr : (es.length + 1) * bytes ≤ roomMax) (cs : List AV) : ∃ x' H' tr, primL lo (H.push ⟨elem, sz, 0, [cs], none⟩) (appendA E t x (.os H.next 0 0 1)) = some (x', H', tr) ∧ OwS H' base elem sz x' (es ++ [cs]) ∧ H.next + 1 ≤ H'.next ∧ (∀ k, k < H.next → ¬ nmO x k → H'.get k = H.get k) ∧ ∀ k, nmO x' k → nmO x k ∨ H.next ≤ k := by
  obtain ⟨A', H3, tr3, h1, h2, h3, h4, -, h5⟩ := (ho.push ⟨elem, sz, 0, [cs], none⟩).addN E lo h (y := .os H.next 0 0 1) (new := [cs]) (.inr ⟨H.next, 0, 0, _, rfl, by rw [next_push]; omega, by rw [get_push, if_pos rfl], rfl, rfl, rfl, by simp, rfl⟩) (fun k hk hk2 => by
    obtain ⟨_, _, _, e⟩ := hk2
    cases e
    have := ho.nm hk; omega) hlo (by rw [next_push]; omega) (by simpa using hr)
  rw [next_push] at h3 h4 h5
  refine ⟨A', H3, tr3, h1, h2, h3, fun k hk hk2 => by rw [h4 k (by omega) hk2, get_push, if_neg (by omega)], fun k hk => ?_⟩
  rcases h5 k hk with z | z
  · exact .inl z
  · exact .inr (by omega)
structure Nest (H : AHeap) (base : Nat) (x : AV) (es : List (List AV)) (ls : List (List Ce)) : Prop where
  len : es.length = ls.length
  ow : ∀ j, j < ls.length → OwS H base 52 3 (bOf es j) (cesA (ls.getD j []))
  nx : ∀ j, j < ls.length → ∀ k, nmO (bOf es j) k → ¬ nmO x k
  ds : ∀ i j, i < ls.length → j < ls.length → i ≠ j → ∀ k, nmO (bOf es i) k → ¬ nmO (bOf es j) k
section
variable {H H' : AHeap} {base : Nat} {x x' : AV} {es : List (List AV)} {ls : List (List Ce)}
theorem Nest.nil : Nest H base x [] [] := ⟨rfl, fun j h => absurd h (Nat.not_lt_zero _), fun j h => absurd h (Nat.not_lt_zero _), fun i j h => absurd h (Nat.not_lt_zero _)⟩
theorem Nest.on (h : Nest H base x es ls) (hn : H.next ≤ H'.next) (hg : ∀ k, base ≤ k → k < H.next → ¬ nmO x k → H'.get k = H.get k) (hx : ∀ k, nmO x' k → nmO x k ∨ H.next ≤ k) : Nest H' base x' es ls := by
  refine ⟨h.len, fun j hj => (h.ow j hj).onN hn fun k hk => hg k ((h.ow j hj).nm hk).1 ((h.ow j hj).nm hk).2 (h.nx j hj k hk), fun j hj k hk q => ?_, h.ds⟩
  rcases hx k q with q | q
  · exact h.nx j hj k hk q
  · have := ((h.ow j hj).nm hk).2; omega
theorem bOf_add (es : List (List AV)) (c : List AV) (j : Nat) : bOf (es ++ [c]) j = if j < es.length then bOf es j else if j = es.length then c.getD 0 .dead else .dead := by
  unfold bOf
  rw [nth_app1]
  split
  · rfl
  · split <;> rfl
theorem getD_setN {α : Type} (l : List α) (x d : α) (i j : Nat) (hj : j < l.length) : (l.set i x).getD j d = if j = i then x else l.getD j d := by
  rw [List.getD_eq_getElem?_getD, List.getElem?_set]
  by_cases e : i = j
  · rw [if_pos e, if_pos (by omega), if_pos e.symm]; rfl
  · rw [if_neg e, if_neg (fun z => e z.symm), List.getD_eq_getElem?_getD]
theorem bOf_set (es : List (List AV)) (c : List AV) (i j : Nat) (hj : j < es.length) : bOf (es.set i c) j = if j = i then c.getD 0 .dead else bOf es j := by
  unfold bOf
  rw [nth_getD, nth_getD, getD_setN _ _ _ _ _ hj]
  split <;> rfl
theorem Nest.add (h : Nest H base x es ls) {c : List AV} {l : List Ce} (hc : OwS H base 52 3 (c.getD 0 .dead) (cesA l)) (h1 : ∀ k, nmO (c.getD 0 .dead) k → ¬ nmO x k ∧ ∀ j, j < ls.length → ¬ nmO (bOf es j) k) : Nest H base x (es ++ [c]) (ls ++ [l]) := by
  have hl := h.len
  have e1 : ∀ j, j < ls.length + 1 → bOf (es ++ [c]) j = if j < ls.length then bOf es j else c.getD 0 .dead := fun j hj => by
    rw [bOf_add, hl]
    by_cases q : j < ls.length
    · rw [if_pos q, if_pos q]
    · rw [if_neg q, if_neg q, if_pos (by omega)]
  have e2 : ∀ j, j < ls.length + 1 → (ls ++ [l]).getD j [] = if j < ls.length then ls.getD j [] else l := fun j hj => by
    rw [getD_app1]
    by_cases q : j < ls.length
    · rw [if_pos q, if_pos q]
    · rw [if_neg q, if_neg q, if_pos (by omega)]
  have e3 : (ls ++ [l]).length = ls.length + 1 := by rw [List.length_append]; rfl
  refine ⟨by rw [List.length_append, e3, hl]; rfl, fun j hj => ?_, fun j hj k hk => ?_, fun i j hi hj hij k hk => ?_⟩
  · rw [e3] at hj
    rw [e1 j hj, e2 j hj]
    by_cases q : j < ls.length
    · rw [if_pos q, if_pos q]; exact h.ow j q
    · rw [if_neg q, if_neg q]; exact hc
  · rw [e3] at hj
    rw [e1 j hj] at hk
    by_cases q : j < ls.length
    · rw [if_pos q] at hk; exact h.nx j q k hk
    · rw [if_neg q] at hk; exact (h1 k hk).1
  · rw [e3] at hi hj
    rw [e1 i hi] at hk
    rw [e1 j hj]
    by_cases q : j < ls.length
    · rw [if_pos q]
      by_cases q2 : i < ls.length
      · rw [if_pos q2] at hk; exact h.ds i j q2 q hij k hk
      · rw [if_neg q2] at hk; exact (h1 k hk).2 j q
    · rw [if_neg q, if_pos (by omega)] at *
      exact fun z => (h1 k z).2 i (by omega) hk
theorem Nest.put (h : Nest H base x es ls) (j : Nat) (hj : j < ls.length) {c : List AV} {l : List Ce} (hn : H.next ≤ H'.next) (hc : OwS H' base 52 3 (c.getD 0 .dead) (cesA l)) (hg : ∀ k, base ≤ k → k < H.next → ¬ nmO x k → ¬ nmO (bOf es j) k → H'.get k = H.get k) (hnm : ∀ k, nmO (c.getD 0 .dead) k → nmO (bOf es j) k ∨ H.next ≤ k) (hxl : ∀ k, nmO x k → k < H.next) : Nest H' base x (es.set j c) (ls.set j l) := by
  have hl := h.len
  have e1 : ∀ i, i < ls.length → bOf (es.set j c) i = if i = j then c.getD 0 .dead else bOf es i := fun i hi => bOf_set es c j i (by omega)
  have e2 : ∀ i, i < ls.length → (ls.set j l).getD i [] = if i = j then l else ls.getD i [] := fun i hi => getD_setN ls l [] j i hi
  have e3 : (ls.set j l).length = ls.length := List.length_set
  refine ⟨by rw [List.length_set, e3, hl], fun i hi => ?_, fun i hi k hk => ?_, fun i i2 hi hi2 hii k hk => ?_⟩
  · rw [e3] at hi
    rw [e1 i hi, e2 i hi]
    by_cases q : i = j
    · rw [if_pos q, if_pos q]; exact hc
    · rw [if_neg q, if_neg q]
      exact (h.ow i hi).onN hn fun k hk => hg k ((h.ow i hi).nm hk).1 ((h.ow i hi).nm hk).2 (h.nx i hi k hk) (h.ds i j hi hj q k hk)
  · rw [e3] at hi
    rw [e1 i hi] at hk
    by_cases q : i = j
    · rw [if_pos q] at hk
      rcases hnm k hk with z | z
      · exact h.nx j hj k z
      · exact fun y => by have := hxl k y; omega
    · rw [if_neg q] at hk; exact h.nx i hi k hk
  · rw [e3] at hi hi2
    rw [e1 i hi] at hk
    rw [e1 i2 hi2]
    by_cases q : i = j
    · rw [if_pos q] at hk
      rw [if_neg (by omega)]
      rcases hnm k hk with z | z
      · exact h.ds j i2 hj hi2 (by omega) k z
      · exact fun y => by have := ((h.ow i2 hi2).nm y).2; omega
    · rw [if_neg q] at hk
      by_cases q2 : i2 = j
      · rw [if_pos q2]
        intro y
        rcases hnm k y with z | z
        · exact h.ds i j hi hj q k hk z
        · have := ((h.ow i hi).nm hk).2; omega
      · rw [if_neg q2]; exact h.ds i i2 hi hi2 hii k hk
theorem Nest.growN (lo : Nat) (h : Nest H base x es ls) (j : Nat) (hj : j < ls.length) (hlo : lo ≤ base) (hbn : base ≤ H.next) {y : AV} {m : List Ce} (hy : Sl 3 y (cesA m)) (hr : (ls.getD j []).length + m.length < 2 ^ 20) : ∃ A' H3 tr3, primL lo H (appendA (ELo oc) 41 (bOf es j) y) = some (A', H3, tr3) ∧ OwS H3 base 52 3 A' (cesA (ls.getD j [] ++ m)) ∧ H.next ≤ H3.next ∧ (∀ k, k < H.next → ¬ nmO (bOf es j) k → H3.get k = H.get k) ∧ ∀ k, nmO A' k → nmO (bOf es j) k ∨ H.next ≤ k := by
  have ho := h.ow j hj
  obtain ⟨A', H3, tr3, h1, h2, h3, h4, -, h5⟩ := ho.addN (ELo oc) lo app_cell (.inl hy) (fun k hk hk2 => hy.nmO hk2) hlo hbn (by rw [ces_len, ces_len]; unfold roomMax; omega)
  refine ⟨A', H3, tr3, h1, by rw [cesA, List.map_append]; exact h2, h3, h4, h5⟩
end
end Go.Am
