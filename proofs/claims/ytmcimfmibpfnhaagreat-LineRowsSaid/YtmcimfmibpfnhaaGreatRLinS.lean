
/- Lines, plainly: spots and places. -/
import Derived.Test.YtmcimfmibpfnhaaGreatRLinP
set_option linter.all false
set_option linter.deprecated false
namespace Go.Am
variable {oc : Orc} [OrcI oc]
set_option maxRecDepth 8000
set_option maxHeartbeats 1000000

/-! Spots. -/
/-! Places. -/
def posA (w : Nat) : Nat → Nat → List Ce → Nat → Nat × Nat
  | r, col, [], _ => (r, col)
  | r, col, c :: _, 0 => if w < col + c.w.toNat then (r + 1, 0) else (r, col)
  | r, col, c :: l, k + 1 => if w < col + c.w.toNat then posA w (r + 1) c.w.toNat l k else posA w r (col + c.w.toNat) l k
def placeL (ls : List (List Ce)) (w line off past : Int) : Nat × Nat :=
  if 0 ≤ line ∧ line < ls.length ∧ 0 ≤ off ∧ off ≤ (ls.getD line.toNat []).length ∧ 0 ≤ past ∧ mayL (ls.getD line.toNat []) w then
    ((allL (ls.take line.toNat) w).length + (posA w.toNat 0 0 (ls.getD line.toNat []) off.toNat).1,
     if off = (ls.getD line.toNat []).length ∧ 0 < past then (min ((posA w.toNat 0 0 (ls.getD line.toNat []) off.toNat).2 + min past w) (w - 1)).toNat else (posA w.toNat 0 0 (ls.getD line.toNat []) off.toNat).2)
  else (0, 0)
theorem allL_app (a b : List (List Ce)) (w : Int) : allL (a ++ b) w = allL a w ++ allL b w := List.flatMap_append
/-! Rows joined, as the document says. -/
end Go.Am
