
/- The seat's environment; words of the Go types. -/
import Derived.Test.YtpaakagaiogknaaGreatAmTabK
import Derived.Test.YtpaakagaiogknaaGreatAmD
import Derived.Test.YtpaakagaiogknaaGreatAmD
import Derived.Test.YtpaakagaiogknaaGreatAmK
set_option linter.all false
set_option linter.deprecated false
namespace Go.Am
variable {oc : Orc} [OrcI oc]
open Go.Proofs
set_option maxRecDepth 8000
set_option maxHeartbeats 1000000
@[go_sem] theorem EZ_P : (ELo oc).P = Tryz.prog := rfl

/-! Plain words. -/
theorem nth_map {α : Type} (f : α → List AV) (l : List α) (i : Nat) (d : α) (h : i < l.length) : nth [] (l.map f) i = f (l.getD i d) := by
  rw [nth_getD, List.getD_eq_getElem?_getD, List.getElem?_map, List.getElem?_eq_getElem h, List.getD_eq_getElem?_getD, List.getElem?_eq_getElem h]; rfl
theorem i64n (n : Nat) (h : n < 2 ^ 62) : IntKind.i64.wrap ((n : Int) + 1) = ((n + 1 : Nat) : Int) := by
  rw [IntWalk.i64_in _ (by omega)]; omega
def nilA : AV := .v (.slice none 0 0)
/-! Bits. -/
/-! Bytes as a string. -/
/-! Owned slices. -/

/-- The name of an owned slice. -/
def nameOf (x : AV) (k : Nat) : Prop := ∃ e off len, x = .os k e off len
/-- What a call on the shared heap may turn: the names of F, and new ones. -/
structure Turn (F : Nat → Prop) (H H' : AHeap) : Prop where
  next : H.next ≤ H'.next
  js : H'.js = H.js
  keep : ∀ k, k < H.next → ¬ F k → H'.get k = H.get k
def grow (F : Nat → Prop) (H H' : AHeap) (k : Nat) : Prop := F k ∨ H.next ≤ k ∧ k < H'.next
theorem Turn.refl (F : Nat → Prop) (H : AHeap) : Turn F H H := ⟨Nat.le_refl _, rfl, fun _ _ _ => rfl⟩
theorem Turn.trans {F : Nat → Prop} {H H1 H2 : AHeap} (h : Turn F H H1) (h' : Turn (grow F H H1) H1 H2) : Turn F H H2 :=
  ⟨Nat.le_trans h.next h'.next, by rw [h'.js, h.js], fun k hk hf => by
    rw [h'.keep k (Nat.lt_of_lt_of_le hk h.next) (by rintro (h1 | ⟨h1, _⟩); exact (hf h1).elim; omega), h.keep k hk hf]⟩
theorem Turn.sub {F F' : Nat → Prop} {H H' : AHeap} (h : Turn F H H') (hF : ∀ k, F k → F' k) : Turn F' H H' := ⟨h.next, h.js, fun k hk hf => h.keep k hk fun h' => hf (hF k h')⟩
theorem Turn.push {F : Nat → Prop} {H H' : AHeap} (h : Turn F H H') (b : Blk) : Turn F H (H'.push b) :=
  ⟨Nat.le_succ_of_le h.next, h.js, fun k hk hf => by rw [get_push, if_neg (by have := h.next; omega), h.keep k hk hf]⟩
theorem Turn.set {F : Nat → Prop} {H H' : AHeap} (h : Turn F H H') (n : Nat) (b : Blk) (hn : F n ∨ H.next ≤ n) : Turn F H (H'.set n b) :=
  ⟨h.next, h.js, fun k hk hf => by rw [get_set, if_neg (by rintro rfl; rcases hn with hn | hn; exact (hf hn).elim; omega), h.keep k hk hf]⟩
theorem SlH.turn {F : Nat → Prop} {H H' : AHeap} {sz : Nat} {x : AV} {es : List (List AV)} (h : SlH H sz x es) (ht : Turn F H H') (hF : ∀ k, nameOf x k → ¬ F k) : SlH H' sz x es := by
  rcases h with h | ⟨n, e, off, b, rfl, hl, hb, h⟩
  · exact .inl h
  · exact .inr ⟨n, e, off, b, rfl, Nat.lt_of_lt_of_le hl ht.next, by rw [ht.keep n hl (hF n ⟨_, _, _, rfl⟩), hb], h⟩
end Go.Am
