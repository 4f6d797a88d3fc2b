
/- Lines of the draws: what the laws make of what came in. -/
import Derived.Test.YtpaakagaiogknaaGreatKLinW
set_option linter.all false
set_option linter.deprecated false
namespace Go.Am
variable {oc : Orc} [OrcI oc]
open Go.Proofs
set_option maxRecDepth 8000
set_option maxHeartbeats 4000000

/-- Lines as they came in, of any length. -/
def LsB (es : List (List AV)) (ls : List (List Ce)) : Prop := es.length = ls.length ∧ ∀ j, j < ls.length → nth [] es j = [bOf es j] ∧ Sl 3 (bOf es j) (cesA (ls.getD j [])) ∧ (ls.getD j []).length < 2 ^ 63 ∧ R32 (ls.getD j [])

/-- What the laws take of them. -/
def linesL (ls : List (List Ce)) : List (List Ce) := ((ls.take 10).map fun l => l.take 40).filter fun l => decide (lineG l)
theorem linesL_take {ls : List (List Ce)} {i : Nat} (hi : i < ls.length) (h10 : i < 10) : linesL (ls.take (i + 1)) = linesL (ls.take i) ++ (if lineG ((ls.getD i []).take 40) then [(ls.getD i []).take 40] else []) := by
  have e : (ls.take (i + 1)).take 10 = (ls.take i).take 10 ++ [ls.getD i []] := by
    rw [List.take_take, List.take_take, Nat.min_eq_right (by omega), Nat.min_eq_right (by omega), List.take_add_one, List.getElem?_eq_getElem hi, List.getD_eq_getElem?_getD, List.getElem?_eq_getElem hi]; rfl
  unfold linesL
  rw [e, List.map_append, List.filter_append]
  congr 1
  by_cases h : lineG ((ls.getD i []).take 40)
  · rw [if_pos h, List.map_singleton, List.filter_cons_of_pos (by simpa using h)]; rfl
  · rw [if_neg h, List.map_singleton, List.filter_cons_of_neg (by simpa using h)]; rfl
theorem linesL_10 {ls : List (List Ce)} {i : Nat} (h : ls.length ≤ i ∨ 10 ≤ i) : linesL (ls.take i) = linesL ls := by
  unfold linesL
  rcases h with h | h
  · rw [List.take_of_length_le h]
  · rw [List.take_take, Nat.min_eq_left h]
theorem linesL_G {ls : List (List Ce)} : ∀ l ∈ linesL ls, lineG l ∧ l.length ≤ 40 := fun l hl => by
  obtain ⟨h1, h2⟩ := List.mem_filter.1 hl
  obtain ⟨m, _, rfl⟩ := List.mem_map.1 h1
  exact ⟨of_decide_eq_true h2, by rw [List.length_take]; omega⟩
theorem linesL_len (ls : List (List Ce)) : (linesL ls).length ≤ 10 := by
  unfold linesL
  refine Nat.le_trans (List.length_filter_le _ _) ?_
  rw [List.length_map, List.length_take]; omega

/-- Lines in a block, their cells by names from lo on but not by x's, or frozen. -/
def LinesLv (H : AHeap) (lo : Nat) (x : AV) (es : List (List AV)) (ls : List (List Ce)) : Prop :=
  es.length = ls.length ∧ ∀ j, j < ls.length → ∃ A, nth [] es j = [A] ∧ SlH H 3 A (cesA (ls.getD j [])) ∧ ∀ k, nmO A k → lo ≤ k ∧ ¬ nmO x k
theorem SlH.on {H H' : AHeap} {sz : Nat} {x : AV} {es : List (List AV)} (h : SlH H sz x es) (hn : H.next ≤ H'.next) (hg : ∀ k, nmO x k → k < H.next → H'.get k = H.get k) : SlH H' sz x es := by
  rcases h with h | ⟨n, e, off, b, rfl, hl, hb, hr⟩
  · exact .inl h
  · exact .inr ⟨n, e, off, b, rfl, by omega, by rw [hg n ⟨_, _, _, rfl⟩ hl]; exact hb, hr⟩
theorem SlH.lt {H : AHeap} {sz k : Nat} {x : AV} {es : List (List AV)} (h : SlH H sz x es) (hk : nmO x k) : k < H.next := by
  rcases h with h | ⟨n, e, off, b, rfl, hl, hb, hr⟩
  · exact (h.nmO hk).elim
  · obtain ⟨_, _, _, e⟩ := hk
    cases e; exact hl
theorem LinesLv.nil (H : AHeap) (lo : Nat) (x : AV) : LinesLv H lo x [] [] := ⟨rfl, fun j h => absurd h (Nat.not_lt_zero _)⟩
theorem LinesLv.on {H H' : AHeap} {lo : Nat} {x x' : AV} {es : List (List AV)} {ls : List (List Ce)} (h : LinesLv H lo x es ls) (hn : H.next ≤ H'.next) (hg : ∀ k, k < H.next → ¬ nmO x k → H'.get k = H.get k) (hx : ∀ k, nmO x' k → nmO x k ∨ H.next ≤ k) : LinesLv H' lo x' es ls := by
  refine ⟨h.1, fun j hj => ?_⟩
  obtain ⟨A, h1, h2, h3⟩ := h.2 j hj
  refine ⟨A, h1, h2.on hn (fun k hk hl => hg k hl (h3 k hk).2), fun k hk => ⟨(h3 k hk).1, fun z => ?_⟩⟩
  rcases hx k z with q | q
  · exact (h3 k hk).2 q
  · have := h2.lt hk; omega
theorem LinesLv.add {H : AHeap} {lo : Nat} {x : AV} {es : List (List AV)} {ls : List (List Ce)} (h : LinesLv H lo x es ls) {A : AV} {l : List Ce} (hA : SlH H 3 A (cesA l)) (hn : ∀ k, nmO A k → lo ≤ k ∧ ¬ nmO x k) : LinesLv H lo x (es ++ [[A]]) (ls ++ [l]) := by
  refine ⟨by simp [h.1], fun j hj => ?_⟩
  rw [List.length_append, List.length_singleton] at hj
  rw [nth_app1, getD_app1, h.1]
  by_cases hj2 : j < ls.length
  · rw [if_pos hj2, if_pos hj2]; exact h.2 j hj2
  · have e : j = ls.length := by omega
    rw [if_neg hj2, if_neg hj2, if_pos e, if_pos e]
    exact ⟨A, rfl, hA, hn⟩
theorem frz_any {H : AHeap} {lo : Nat} {x : AV} {l : List Ce} (h : SlH H 3 x (cesA l)) (hn : ∀ k, nmO x k → lo ≤ k) (d : Nat) : Sl 3 (frz H (badN lo []) (d + 2) x) (cesA l) := by
  rcases h with (rfl | ⟨h, rfl | rfl⟩) | h
  · exact .inl rfl
  · exact .inr ⟨h, .inl rfl⟩
  · exact .inr ⟨h, .inr rfl⟩
  · obtain ⟨n, e, off, b, rfl, hl, hb, he, hi, hs, ho, ht⟩ := h
    have hbad : badN lo [] n = false := by
      have := hn n ⟨_, _, _, rfl⟩
      cases hc : badN lo [] n with
      | false => rfl
      | true =>
        simp only [badN, List.any_nil, Bool.or_false, Nat.blt_eq] at hc
        omega
    left
    show (if badN lo [] n then AV.dead else match H.get n with
        | some b => if b.ep = e ∧ b.it.isNone ∧ off + (cesA l).length ≤ b.es.length ∧ 0 < b.sz then .sl b.sz (((b.es.drop off).take (cesA l).length).map fun c => c.map (frz H (badN lo []) (d + 1))) else .dead
        | none => .dead) = _
    rw [hbad, if_neg (by decide), hb]
    show (if b.ep = e ∧ b.it.isNone = true ∧ off + (cesA l).length ≤ b.es.length ∧ 0 < b.sz then _ else _) = _
    rw [if_pos ⟨he, by rw [hi]; rfl, ho, by omega⟩, ht, hs, frz_flatE H _ d (flat_ces _)]
theorem frz_lines {H : AHeap} {lo base : Nat} {x : AV} {es : List (List AV)} {ls : List (List Ce)} (ho : OwS H base 33 1 x es) (h : LinesLv H lo x es ls) (hb : lo ≤ base) (h40 : ∀ l ∈ ls, l.length < 2 ^ 40 ∧ R32 l) : ∃ es', Sl 1 (frzR H lo x) es' ∧ LsP es' ls := by
  rcases ho with ⟨rfl, hx⟩ | ⟨n, e, rfl, hbn, hl, hg⟩
  · have h0 : ls = [] := by
      have := h.1
      exact List.eq_nil_of_length_eq_zero this.symm
    subst h0
    refine ⟨[], ?_, LsP.nil⟩
    rcases hx with rfl | rfl
    · exact .inr ⟨rfl, .inl rfl⟩
    · exact .inr ⟨rfl, .inr rfl⟩
  · have hbad : badN lo [] n = false := by
      cases hc : badN lo [] n with
      | false => rfl
      | true =>
        simp only [badN, List.any_nil, Bool.or_false, Nat.blt_eq] at hc
        omega
    have hm : ∀ j, j < ls.length → ls.getD j [] ∈ ls := fun j hj => by rw [List.getD_eq_getElem?_getD, List.getElem?_eq_getElem hj]; exact List.getElem_mem hj
    have e0 : frzR H lo (.os n e 0 es.length) = .sl 1 (es.map fun c => c.map (frz H (badN lo []) 11)) := by
      show (if n < lo then _ else Go.Am.frz H (badN lo []) 12 (.os n e 0 es.length)) = _
      rw [if_neg (by omega)]
      show (if badN lo [] n then AV.dead else match H.get n with
          | some b => if b.ep = e ∧ b.it.isNone ∧ 0 + es.length ≤ b.es.length ∧ 0 < b.sz then .sl b.sz (((b.es.drop 0).take es.length).map fun c => c.map (Go.Am.frz H (badN lo []) 11)) else .dead
          | none => .dead) = _
      rw [hbad, if_neg (by decide), hg]
      show (if e = e ∧ (none : Option (ByteArray × Nat)).isNone = true ∧ 0 + es.length ≤ es.length ∧ 0 < 1 then AV.sl 1 (((es.drop 0).take es.length).map fun c => c.map (Go.Am.frz H (badN lo []) 11)) else .dead) = _
      rw [if_pos ⟨rfl, rfl, by omega, by omega⟩, List.drop_zero, List.take_of_length_le (Nat.le_refl _)]
    refine ⟨_, .inl e0, ?_⟩
    have key : ∀ j, j < ls.length → ∃ A, nth [] (es.map fun c => c.map (frz H (badN lo []) 11)) j = [A] ∧ Sl 3 A (cesA (ls.getD j [])) := fun j hj => by
      obtain ⟨A, h1, h2, h3⟩ := h.2 j hj
      have hj2 : j < es.length := by rw [h.1]; exact hj
      rw [nth_getD, List.getD_eq_getElem?_getD, List.getElem?_eq_getElem hj2] at h1
      refine ⟨_, ?_, frz_any h2 (fun k hk => (h3 k hk).1) 9⟩
      rw [nth_getD, List.getD_eq_getElem?_getD, List.getElem?_map, List.getElem?_eq_getElem hj2]
      show es[j].map _ = _
      rw [show es[j] = [A] from h1]; rfl
    refine ⟨by rw [List.length_map]; exact h.1, fun j hj => ?_, fun j hj => ?_, fun j hj => (h40 _ (hm j hj)).1, fun j hj => (h40 _ (hm j hj)).2⟩
    · obtain ⟨A, h1, _⟩ := key j hj
      rw [bOf, h1]; rfl
    · obtain ⟨A, h1, h2⟩ := key j hj
      rw [bOf, h1]; exact h2
end Go.Am
