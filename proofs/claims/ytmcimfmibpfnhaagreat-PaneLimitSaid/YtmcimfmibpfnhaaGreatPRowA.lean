
/- RowAll: cells are set, erased. -/
import Derived.Test.YtmcimfmibpfnhaaGreatPRowS
set_option linter.all false
set_option linter.deprecated false
namespace Go.Am
variable {oc : Orc} [OrcI oc]
open Go.Proofs
set_option maxRecDepth 8000
set_option maxHeartbeats 4000000
def setL (l : List Ce) (col : Int) (m : List Ce) : List Ce := if setOk l col m then putL l col.toNat m else l
def erL (l : List Ce) (a b : Int) : List Ce := if eraOk l a b then eraL l a.toNat b.toNat else l
def erW (l : List Ce) (wr : Bool) (a b : Int) : Bool := if eraOk l a b then eraW l wr a b else wr
theorem SetP.norm {l m : List Ce} {wr : Bool} {A x : AV} {col : Int} (h : SetP l wr A col m x) (hA : Sl 3 A (cesA l)) : ∃ A', x = .tup [rowA A' wr, .v (.bool (decide (setOk l col m)))] ∧ Sl 3 A' (cesA (setL l col m)) := by
  rcases h with ⟨hok, A', rfl, hA'⟩ | ⟨hno, rfl⟩
  · exact ⟨A', by rw [decide_eq_true hok], by unfold setL; rw [if_pos hok]; exact hA'⟩
  · exact ⟨A, by rw [decide_eq_false hno], by unfold setL; rw [if_neg hno]; exact hA⟩
theorem EraP.norm {H : AHeap} {l : List Ce} {wr : Bool} {A x : AV} {a b : Int} (h : EraP H l wr A a b x) (hA : Sl 3 A (cesA l)) : ∃ A', x = .tup [rowA A' (erW l wr a b), .v (.bool (decide (eraOk l a b)))] ∧ SlH H 3 A' (cesA (erL l a b)) := by
  rcases h with ⟨hok, A', rfl, hA'⟩ | ⟨hno, rfl⟩
  · exact ⟨A', by unfold erW; rw [decide_eq_true hok, if_pos hok], by unfold erL; rw [if_pos hok]; exact hA'⟩
  · exact ⟨A, by unfold erW; rw [decide_eq_false hno, if_neg hno], by unfold erL; rw [if_neg hno]; exact .inl hA⟩
theorem R32_put {l m : List Ce} (h : R32 l) (hm : R32 m) (col : Nat) : R32 (putL l col m) := fun i => by
  rcases Nat.lt_or_ge i l.length with hi | hi
  · rw [putL_at _ _ _ _ hi]
    split
    · exact hm _
    · split
      · simp
      · split
        · simp
        · exact h i
  · simp [List.getD_eq_getElem?_getD, List.getElem?_eq_none (by rw [putL_len]; exact hi : (putL l col m).length ≤ i)]
theorem R32_blanks (n : Nat) : R32 (blanks n) := fun i => by
  rcases Nat.lt_or_ge i n with hi | hi
  · rw [blanks_at _ _ hi]; simp
  · simp [List.getD_eq_getElem?_getD, List.getElem?_eq_none (by rw [blanks_len]; exact hi : (blanks n).length ≤ i)]
theorem setL_ok {l m : List Ce} {col : Int} (hl : rowG l) : rowG (setL l col m) := by
  unfold setL
  split
  · rename_i h
    obtain ⟨_, h2, h3, h4⟩ := h
    have := (signI_G h2).len
    exact put_rowG hl _ _ (by omega) (by omega) (sign_cells (signI_G h2))
  · exact hl
theorem erL_ok {l : List Ce} {a b : Int} (hl : rowG l) : rowG (erL l a b) := by
  unfold erL
  split
  · rename_i h
    obtain ⟨_, h2, h3, h4⟩ := h
    exact eraG hl (by omega) (by omega)
  · exact hl
theorem setL_R {l m : List Ce} {col : Int} (h : R32 l) (hm : R32 m) : R32 (setL l col m) := by
  unfold setL; split
  · exact R32_put h hm _
  · exact h
theorem erL_R {l : List Ce} {a b : Int} (h : R32 l) : R32 (erL l a b) := by
  unfold erL eraL; split
  · split
    · exact h
    · exact R32_put h (R32_blanks _) _
  · exact h
theorem setL_len (l m : List Ce) (col : Int) : (setL l col m).length = l.length := by unfold setL; split <;> simp [putL_len]
theorem erL_len (l : List Ce) (a b : Int) : (erL l a b).length = l.length := by unfold erL; split <;> simp [eraL_len]

section
variable {A B : AV} {l m : List Ce} {wr : Bool}
end
end Go.Am
