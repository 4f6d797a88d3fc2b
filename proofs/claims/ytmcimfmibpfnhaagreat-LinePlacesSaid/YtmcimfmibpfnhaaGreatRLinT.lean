
/- Lines, plainly: how many rows, where they end, marks. -/
import Derived.Test.YtmcimfmibpfnhaaGreatRLinS
set_option linter.all false
set_option linter.deprecated false
namespace Go.Am
variable {oc : Orc} [OrcI oc]
set_option maxRecDepth 8000
set_option maxHeartbeats 1000000
theorem place_at (w : Int) (hw2 : 2 ≤ w) (hw : w ≤ 300) (ls : List (List Ce)) (h : ∀ l ∈ ls, lineG l) (i k : Nat) (hi : i < ls.length) (hk : k < (ls.getD i []).length) :
    placeL ls w i k 0 = ((allL (ls.take i) w).length + (posA w.toNat 0 0 (ls.getD i []) k).1, (posA w.toNat 0 0 (ls.getD i []) k).2) ∧ (posA w.toNat 0 0 (ls.getD i []) k).1 < (layL (ls.getD i []) w).length ∧
    ∃ row, (allL ls w)[(placeL ls w i k 0).1]? = some row ∧ row.1.length = w.toNat ∧ (placeL ls w i k 0).2 < w.toNat ∧ row.1.getD (placeL ls w i k 0).2 zeroC = (ls.getD i []).getD k zeroC := by
  have hmem : ls.getD i [] ∈ ls := by rw [List.getD_eq_getElem?_getD, List.getElem?_eq_getElem hi]; exact List.getElem_mem hi
  have hg := h _ hmem
  have hpl : placeL ls w i k 0 = ((allL (ls.take i) w).length + (posA w.toNat 0 0 (ls.getD i []) k).1, (posA w.toNat 0 0 (ls.getD i []) k).2) := by
    unfold placeL
    rw [if_pos ⟨by omega, by omega, by omega, by simp only [Int.toNat_natCast]; omega, by omega, hw2, hw, by simpa using hg⟩]
    simp only [Int.toNat_natCast]
    rw [if_neg (fun z => by omega)]
  have hall := allL_at (w := w) hi
  have hlay : layL (ls.getD i []) w = lay w.toNat [] (ls.getD i []) := if_pos ⟨hw2, hw, hg⟩
  rw [hlay] at hall ⊢
  obtain ⟨row, h1, h2, h3, h4⟩ := lay_pos w.toNat (by omega) (by omega) (ls.getD i []) [] k hg trivial (Nat.zero_le _) hk
  rw [List.length_nil] at h1 h2 h3 h4
  have hrows := lay_rows w.toNat (by omega) (by omega) (ls.getD i []) [] hg trivial (Nat.zero_le _)
  have hq1 : (posA w.toNat 0 0 (ls.getD i []) k).1 < (lay w.toNat [] (ls.getD i [])).length := by
    rcases Nat.lt_or_ge (posA w.toNat 0 0 (ls.getD i []) k).1 (lay w.toNat [] (ls.getD i [])).length with hh | hh
    · exact hh
    · rw [List.getElem?_eq_none hh] at h1; cases h1
  refine ⟨hpl, hq1, row, ?_, (hrows row (List.mem_of_getElem? h1)).1, ?_, ?_⟩
  · rw [hpl, hall]
    dsimp only
    rw [List.getElem?_append_right (by omega), Nat.add_sub_cancel_left, List.getElem?_append_left hq1]; exact h1
  · rw [hpl]; exact h3
  · rw [hpl]; exact h2
theorem place_end (w : Int) (hw2 : 2 ≤ w) (hw : w ≤ 300) (ls : List (List Ce)) (h : ∀ l ∈ ls, lineG l) (i : Nat) (hi : i < ls.length) (past : Int) (hp : 0 ≤ past) :
    (placeL ls w i (ls.getD i []).length past).1 + 1 = (allL (ls.take (i + 1)) w).length ∧ (placeL ls w i (ls.getD i []).length 0).2 ≤ w.toNat ∧ (placeL ls w i (ls.getD i []).length past).2 ≤ w.toNat ∧
    (placeL ls w i (ls.getD i []).length past).2 = if 0 < past then (min (((placeL ls w i (ls.getD i []).length 0).2 : Int) + past) (w - 1)).toNat else (placeL ls w i (ls.getD i []).length 0).2 := by
  have hmem : ls.getD i [] ∈ ls := by rw [List.getD_eq_getElem?_getD, List.getElem?_eq_getElem hi]; exact List.getElem_mem hi
  have hg := h _ hmem
  have hpl : ∀ past : Int, 0 ≤ past → placeL ls w i (ls.getD i []).length past = ((allL (ls.take i) w).length + (posA w.toNat 0 0 (ls.getD i []) (ls.getD i []).length).1, if 0 < past then (min (((posA w.toNat 0 0 (ls.getD i []) (ls.getD i []).length).2 : Int) + min past w) (w - 1)).toNat else (posA w.toNat 0 0 (ls.getD i []) (ls.getD i []).length).2) := fun past hp => by
    unfold placeL
    rw [if_pos ⟨by omega, by omega, by omega, by simp only [Int.toNat_natCast]; omega, hp, hw2, hw, by simpa using hg⟩]
    simp only [Int.toNat_natCast, true_and]
  have h1 := lay_end w.toNat (by omega) (ls.getD i []) [] hg (Nat.zero_le _)
  rw [List.length_nil] at h1
  have hlay : layL (ls.getD i []) w = lay w.toNat [] (ls.getD i []) := if_pos ⟨hw2, hw, hg⟩
  have htk : allL (ls.take (i + 1)) w = allL (ls.take i) w ++ layL (ls.getD i []) w := by
    rw [List.take_add_one, List.getElem?_eq_getElem hi, allL_app, List.getD_eq_getElem?_getD, List.getElem?_eq_getElem hi]
    show _ ++ (layL _ w ++ allL [] w) = _
    rw [show allL [] w = [] from rfl, List.append_nil]; rfl
  rw [hpl past hp, hpl 0 (Int.le_refl 0), htk, List.length_append, hlay]
  dsimp only
  rw [if_neg (Int.lt_irrefl 0)]
  refine ⟨by omega, h1.2, ?_, ?_⟩
  · split
    · omega
    · exact h1.2
  · split
    · congr 1; omega
    · rfl
/-! How many rows. -/
end Go.Am
