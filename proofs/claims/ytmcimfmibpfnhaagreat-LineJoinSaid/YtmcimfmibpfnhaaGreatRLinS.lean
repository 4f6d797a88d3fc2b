
/- Lines, plainly: spots and places. -/
import Derived.Test.YtmcimfmibpfnhaaGreatRLinP
set_option linter.all false
set_option linter.deprecated false
namespace Go.Am
variable {oc : Orc} [OrcI oc]
set_option maxRecDepth 8000
set_option maxHeartbeats 1000000

/-! Spots. -/
/-! Places. -/
def posA (w : Nat) : Nat → Nat → List Ce → Nat → Nat × Nat
  | r, col, [], _ => (r, col)
  | r, col, c :: _, 0 => if w < col + c.w.toNat then (r + 1, 0) else (r, col)
  | r, col, c :: l, k + 1 => if w < col + c.w.toNat then posA w (r + 1) c.w.toNat l k else posA w r (col + c.w.toNat) l k
theorem posA_shift (w : Nat) : ∀ (l : List Ce) (r col k : Nat), posA w r col l k = (r + (posA w 0 col l k).1, (posA w 0 col l k).2)
  | [], r, col, k => by cases k <;> rfl
  | c :: l, r, col, 0 => by unfold posA; split <;> rfl
  | c :: l, r, col, k + 1 => by
    unfold posA
    split
    · rw [posA_shift w l (r + 1), posA_shift w l (0 + 1)]
      simp only [Nat.add_assoc, Nat.zero_add]
    · exact posA_shift w l r _ k
def placeL (ls : List (List Ce)) (w line off past : Int) : Nat × Nat :=
  if 0 ≤ line ∧ line < ls.length ∧ 0 ≤ off ∧ off ≤ (ls.getD line.toNat []).length ∧ 0 ≤ past ∧ mayL (ls.getD line.toNat []) w then
    ((allL (ls.take line.toNat) w).length + (posA w.toNat 0 0 (ls.getD line.toNat []) off.toNat).1,
     if off = (ls.getD line.toNat []).length ∧ 0 < past then (min ((posA w.toNat 0 0 (ls.getD line.toNat []) off.toNat).2 + min past w) (w - 1)).toNat else (posA w.toNat 0 0 (ls.getD line.toNat []) off.toNat).2)
  else (0, 0)
theorem lay_wrap (w : Nat) : ∀ (l cur : List Ce) (j : Nat), j < (lay w cur l).length → ((lay w cur l).getD j noRw).2 = decide (j + 1 < (lay w cur l).length)
  | [], cur, j, h => by
    have : j = 0 := by simpa [lay] using h
    subst this; rfl
  | c :: l, cur, j, h => by
    unfold lay at h ⊢
    split
    · rename_i hgt
      rw [if_pos hgt] at h
      cases j with
      | zero =>
        have : 0 < (lay w (cellsC c) l).length := List.length_pos_iff.2 (lay_ne _ _ _)
        show true = _
        symm; rw [decide_eq_true_eq, List.length_cons]; omega
      | succ j =>
        have := lay_wrap w l (cellsC c) j (by simpa using h)
        rw [List.length_cons]
        show ((lay w (cellsC c) l).getD j noRw).2 = _
        rw [this]
        simp
    · rename_i hgt
      rw [if_neg hgt] at h
      exact lay_wrap w l _ j h

/-- Where a line ends. -/
theorem lay_end (w : Nat) (hw2 : 2 ≤ w) : ∀ (l cur : List Ce), lineG l → cur.length ≤ w → (posA w 0 cur.length l l.length).1 + 1 = (lay w cur l).length ∧ (posA w 0 cur.length l l.length).2 ≤ w
  | [], cur, _, hl => ⟨rfl, hl⟩
  | c :: l, cur, hg, hl => by
    have hcc := hg c List.mem_cons_self
    have hgl : lineG l := fun x hx => hg x (List.mem_cons_of_mem _ hx)
    have hlen := cellsC_len' hcc
    have hcw := hcc.w
    rw [List.length_cons]
    unfold lay posA
    split
    · rw [posA_shift]
      have := lay_end w hw2 l (cellsC c) hgl (by omega)
      rw [hlen] at this
      refine ⟨?_, this.2⟩
      rw [List.length_cons]; dsimp only; omega
    · have := lay_end w hw2 l (cur ++ cellsC c) hgl (by rw [List.length_append]; omega)
      rw [List.length_append, hlen] at this
      exact this

theorem allL_app (a b : List (List Ce)) (w : Int) : allL (a ++ b) w = allL a w ++ allL b w := List.flatMap_append
theorem allL_cons (l : List Ce) (ls : List (List Ce)) (w : Int) : allL (l :: ls) w = layL l w ++ allL ls w := rfl
/-! Rows joined, as the document says. -/
end Go.Am
