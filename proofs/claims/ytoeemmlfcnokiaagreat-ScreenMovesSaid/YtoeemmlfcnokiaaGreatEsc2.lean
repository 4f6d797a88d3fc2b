/- utf8.AppendRune; the signs of an OSC; esc.Parser.Put. -/
import Derived.Test.YtoeemmlfcnokiaaGreatEsc1
set_option linter.all false
set_option linter.deprecated false
namespace Go.Am
open Go.Proofs
set_option maxRecDepth 8000
set_option maxHeartbeats 1000000
theorem wrap_u8' (n : Int) : IntKind.u8.wrap n = n % 256 := IntKind.wrap_u8 n
set_option maxRecDepth 20000 in
section
variable {ys : List (Nat × LRec)} {lo : Nat} {H : AHeap} {F : Nat → Prop} {n : Nat} {w : Int} {t : List Int}
theorem enc_len (r : Int) : 1 ≤ (enc r).length ∧ (enc r).length ≤ 4 := by
  unfold enc
  split
  · split
    · simp
    · split
      · simp
      · split <;> simp
  · simp
theorem utf8_len (t : List Int) : (utf8 t).length ≤ 4 * t.length := by
  induction t with
  | nil => simp [utf8]
  | cons c t ih =>
    have := (enc_len c).2
    simp only [utf8, List.flatMap_cons, List.length_append, List.length_cons] at ih ⊢
    omega
theorem utf8_snoc (t : List Int) (r : Int) : utf8 (t ++ [r]) = utf8 t ++ enc r := by simp [utf8]
theorem put_three (t : List Int) (r : Int) : put 3 t r = if r = 7 then (0, t, oscEv t) else if r = 27 then (4, t, none) else (3, t ++ [r], none) := by
  unfold put
  rw [if_neg (by omega), if_neg (by omega), if_neg (by omega), if_neg (by omega)]
end
end Go.Am
