
/- Rows told as they are: small words. -/
import Derived.Test.YtmcimfmibpfnhaaGreatPRowD
import Derived.Test.YtmcimfmibpfnhaaGreatPRowP
set_option linter.all false
set_option linter.deprecated false
namespace Go.Am
variable {oc : Orc} [OrcI oc]
open Go.Proofs
set_option maxRecDepth 8000
def rowsA (l : List Rw) : List (List AV) := l.map fun r => [.sl 3 (cesA r.1), .v (.bool r.2)]
theorem rowsA_len (l : List Rw) : (rowsA l).length = l.length := List.length_map _
theorem nth_rowsA (l : List Rw) (i : Nat) (h : i < l.length) : nth [] (rowsA l) i = [.sl 3 (cesA (l.getD i noRw).1), .v (.bool (l.getD i noRw).2)] := nth_map _ l i noRw h
theorem rowsA_set (l : List Rw) (i : Nat) (c : List Ce) (b : Bool) : (rowsA l).set i [.sl 3 (cesA c), .v (.bool b)] = rowsA (l.set i (c, b)) := by
  unfold rowsA; rw [List.map_set]
theorem rowsA_app (l m : List Rw) : rowsA (l ++ m) = rowsA l ++ rowsA m := List.map_append
theorem Sl_ne {sz : Nat} {x : AV} {es : List (List AV)} (h : Sl sz x es) (hne : es ≠ []) : x = .sl sz es := by
  rcases h with h | ⟨h, _⟩
  · exact h
  · exact absurd h hne
theorem ces_ne {l : List Ce} (h : l ≠ []) : cesA l ≠ [] := fun e => h (ces_nil.1 e)

/-- A slice of cells, frozen deep within. -/
theorem frz_SlH {H : AHeap} {lo sz : Nat} {x : AV} {es : List (List AV)} (h : SlH H sz x es) (hne : es ≠ []) (hf : FlatE es) (hz : 0 < sz) (hn : ∀ k, nameOf x k → lo ≤ k) (d : Nat) : frz H (badN lo []) (d + 2) x = .sl sz es := by
  rcases h with (rfl | ⟨h, _⟩) | ⟨n, e, off, b, rfl, hl, hb, he, hi, hs, ho, ht⟩
  · rfl
  · exact absurd h hne
  · have hbad : badN lo [] n = false := by
      have := hn n ⟨_, _, _, rfl⟩
      cases hc : badN lo [] n with
      | false => rfl
      | true =>
        simp only [badN, List.any_nil, Bool.or_false, Nat.blt_eq] at hc
        omega
    show (if badN lo [] n then AV.dead else match H.get n with
        | some b => if b.ep = e ∧ b.it.isNone ∧ off + es.length ≤ b.es.length ∧ 0 < b.sz then .sl b.sz (((b.es.drop off).take es.length).map fun c => c.map (frz H (badN lo []) (d + 1))) else .dead
        | none => .dead) = _
    rw [hbad, if_neg (by decide), hb]
    show (if b.ep = e ∧ b.it.isNone = true ∧ off + es.length ≤ b.es.length ∧ 0 < b.sz then _ else _) = _
    rw [if_pos ⟨he, by rw [hi]; rfl, ho, by omega⟩, ht, hs, frz_flatE H _ d hf]
end Go.Am
