
/- LineJoin: rows of two panes, one behind the other. -/
import Derived.Test.YtmcimfmibpfnhaaGreatRLnC
import Derived.Test.YtmcimfmibpfnhaaGreatRLinY
set_option linter.all false
set_option linter.deprecated false
namespace Go.Am
variable {oc : Orc} [OrcI oc]
open Go.Proofs
set_option maxRecDepth 8000
set_option maxHeartbeats 4000000
theorem getD_app {α : Type} (d : α) (l m : List α) (j : Nat) : (l ++ m).getD j d = if j < l.length then l.getD j d else m.getD (j - l.length) d := by
  rw [List.getD_eq_getElem?_getD, List.getElem?_append]
  split <;> rfl
theorem bOf_app (es fs : List (List AV)) (j : Nat) : bOf (es ++ fs) j = if j < es.length then bOf es j else bOf fs (j - es.length) := by
  unfold bOf
  rw [nth_getD, getD_app]
  split
  · rw [nth_getD]
  · rw [nth_getD]
theorem RsP.app {es fs : List (List AV)} {a b : List Rw} (h : RsP es a) (k : RsP fs b) : RsP (es ++ fs) (a ++ b) := by
  have hl := h.len
  have hk := k.len
  have hn : ∀ j, nth [] (es ++ fs) j = if j < es.length then nth [] es j else nth [] fs (j - es.length) := fun j => by
    rw [nth_getD, getD_app]; split <;> rw [nth_getD]
  refine ⟨by rw [List.length_append, List.length_append, hl, hk], fun j hj => ?_, fun j hj => ?_, fun j hj => ?_, fun j hj => ?_⟩ <;> rw [List.length_append] at hj <;> by_cases q : j < a.length
  · rw [hn, bOf_app, getD_app, if_pos (by omega), if_pos (by omega), if_pos q]; exact h.cell j q
  · rw [hn, bOf_app, getD_app, if_neg (by omega), if_neg (by omega), if_neg q, hl]; exact k.cell _ (by omega)
  · rw [bOf_app, getD_app, if_pos (by omega), if_pos q]; exact h.sl j q
  · rw [bOf_app, getD_app, if_neg (by omega), if_neg q, hl]; exact k.sl _ (by omega)
  · rw [getD_app, if_pos q]; exact h.lt j q
  · rw [getD_app, if_neg q]; exact k.lt _ (by omega)
  · rw [getD_app, if_pos q]; exact h.r32 j q
  · rw [getD_app, if_neg q]; exact k.r32 _ (by omega)
theorem LsP.app {es fs : List (List AV)} {a b : List (List Ce)} (h : LsP es a) (k : LsP fs b) : LsP (es ++ fs) (a ++ b) := by
  have hl := h.len
  have hk := k.len
  have hn : ∀ j, nth [] (es ++ fs) j = if j < es.length then nth [] es j else nth [] fs (j - es.length) := fun j => by
    rw [nth_getD, getD_app]; split <;> rw [nth_getD]
  refine ⟨by rw [List.length_append, List.length_append, hl, hk], fun j hj => ?_, fun j hj => ?_, fun j hj => ?_, fun j hj => ?_⟩ <;> rw [List.length_append] at hj <;> by_cases q : j < a.length
  · rw [hn, bOf_app, if_pos (by omega), if_pos (by omega)]; exact h.cell j q
  · rw [hn, bOf_app, if_neg (by omega), if_neg (by omega), hl]; exact k.cell _ (by omega)
  · rw [bOf_app, getD_app, if_pos (by omega), if_pos q]; exact h.sl j q
  · rw [bOf_app, getD_app, if_neg (by omega), if_neg q, hl]; exact k.sl _ (by omega)
  · rw [getD_app, if_pos q]; exact h.lt j q
  · rw [getD_app, if_neg q]; exact k.lt _ (by omega)
  · rw [getD_app, if_pos q]; exact h.r32 j q
  · rw [getD_app, if_neg q]; exact k.r32 _ (by omega)
section
variable {A B : AV} {es fs : List (List AV)} {a b : List Rw}
end
end Go.Am
