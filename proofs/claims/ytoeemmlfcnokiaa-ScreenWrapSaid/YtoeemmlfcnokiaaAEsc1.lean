
/- The parser of escapes and the reference's: what they are, in plain words, and what their calls do. -/
import Derived.Test.YtoeemmlfcnokiaaAAmE
set_option linter.all false
set_option linter.deprecated false
namespace Go.Am
open Go.Proofs
set_option maxRecDepth 8000
set_option maxHeartbeats 1000000

/-! The plain parser. -/
structure Ev where
  kind : Int
  r : Int
  args : List Int
  text : ByteArray
def signB (r : Int) : Bool := decide (0 ≤ r ∧ r ≤ 1114111 ∧ (r < 55296 ∨ 57343 < r))
def enc (r : Int) : List Int :=
  if signB r then
    if r < 128 then [r] else if r < 2048 then [192 + r / 64, 128 + r % 64] else if r < 65536 then [224 + r / 4096, 128 + r / 64 % 64, 128 + r % 64] else [240 + r / 262144, 128 + r / 4096 % 64, 128 + r / 64 % 64, 128 + r % 64]
  else [239, 191, 189]
def utf8 (t : List Int) : List Int := t.flatMap enc
def emptyB : ByteArray := ⟨#[]⟩
def validC (c : Int) : Bool := decide (c = 59 ∨ 48 ≤ c ∧ c ≤ 57)
def stepArgs (a : List Int) (c : Int) : List Int := if c = 59 then a ++ [0] else if 48 ≤ c ∧ c ≤ 57 then a.set (a.length - 1) (min (10 * a.getD (a.length - 1) 0 + (c - 48)) 9999) else a
def csiArgs (t : List Int) : List Int := t.foldl stepArgs [0]
def oscEv (t : List Int) : Option Ev := if (utf8 t).length ≤ 4000 then some ⟨4, 0, [], strOfNums (utf8 t)⟩ else none
def csiEv (t : List Int) (r : Int) : Option Ev := if t.all validC then some ⟨3, r, if t = [] then [] else (csiArgs t).take 8, emptyB⟩ else none
def ctrlB (r : Int) : Bool := decide (r = 8 ∨ r = 9 ∨ r = 10 ∨ r = 13)
def put (w : Int) (t : List Int) (r : Int) : Int × List Int × Option Ev :=
  if w = 4 ∧ r = 92 then (0, t, oscEv t)
  else if w = 4 ∨ w = 1 then (if r = 91 then 2 else if r = 93 then 3 else if r = 27 then 1 else 0, [], none)
  else if w = 0 then if ctrlB r then (0, t, some ⟨2, r, [], emptyB⟩) else if r = 27 then (1, t, none) else if 32 ≤ r ∧ r ≠ 127 then (0, t, some ⟨1, r, [], emptyB⟩) else (0, t, none)
  else if w = 2 then if r = 27 then (1, t, none) else if r < 32 then (0, t, none) else if 64 ≤ r ∧ r ≤ 126 then (0, t, csiEv t r) else (2, t ++ [r], none)
  else if r = 7 then (0, t, oscEv t) else if r = 27 then (4, t, none) else (3, t ++ [r], none)

section
variable {ys : List (Nat × LRec)} {lo : Nat} {H : AHeap} {F : Nat → Prop} {n : Nat} {w : Int} {t : List Int}
/-! esc.Parser. -/
end
end Go.Am
