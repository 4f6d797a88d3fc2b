
/- Rows and lines as they lie in slices. -/
import Derived.Test.YtpaakagaiogknaaGreatKLinQ
import Derived.Test.YtpaakagaiogknaaGreatAmG
set_option linter.all false
set_option linter.deprecated false
namespace Go.Am
variable {oc : Orc} [OrcI oc]
open Go.Proofs
set_option maxRecDepth 8000
set_option maxHeartbeats 4000000

/-- What a slice's element begins with. -/
def bOf (es : List (List AV)) (j : Nat) : AV := (nth [] es j).getD 0 .dead

/-- Lines that lie there, frozen. -/
structure LsP (es : List (List AV)) (ls : List (List Ce)) : Prop where
  len : es.length = ls.length
  cell : ∀ j, j < ls.length → nth [] es j = [bOf es j]
  sl : ∀ j, j < ls.length → Sl 3 (bOf es j) (cesA (ls.getD j []))
  lt : ∀ j, j < ls.length → (ls.getD j []).length < 2 ^ 40
  r32 : ∀ j, j < ls.length → R32 (ls.getD j [])
theorem nth_app1 {es : List (List AV)} {c : List AV} {j : Nat} : nth [] (es ++ [c]) j = if j < es.length then nth [] es j else if j = es.length then c else [] := by
  rw [nth_getD, nth_getD, List.getD_eq_getElem?_getD, List.getD_eq_getElem?_getD, List.getElem?_append]
  split
  · rfl
  · split
    · rename_i h; subst h; simp
    · rw [List.getElem?_eq_none (by simp; omega)]; rfl
theorem getD_app1 {α : Type} {d : α} {l : List α} {c : α} {j : Nat} : (l ++ [c]).getD j d = if j < l.length then l.getD j d else if j = l.length then c else d := by
  rw [List.getD_eq_getElem?_getD, List.getD_eq_getElem?_getD, List.getElem?_append]
  split
  · rfl
  · split
    · rename_i h; subst h; simp
    · rw [List.getElem?_eq_none (by simp; omega)]; rfl
theorem LsP.nil : LsP [] [] := ⟨rfl, fun j h => absurd h (Nat.not_lt_zero _), fun j h => absurd h (Nat.not_lt_zero _), fun j h => absurd h (Nat.not_lt_zero _), fun j h => absurd h (Nat.not_lt_zero _)⟩
theorem LsP.add {es : List (List AV)} {ls : List (List Ce)} (h : LsP es ls) {A : AV} {l : List Ce} (hA : Sl 3 A (cesA l)) (hl : l.length < 2 ^ 40) (h32 : R32 l) : LsP (es ++ [[A]]) (ls ++ [l]) := by
  have hn := h.len
  have e1 : ∀ j, j < ls.length + 1 → bOf (es ++ [[A]]) j = if j < ls.length then bOf es j else A := fun j hj => by
    unfold bOf
    rw [nth_app1, hn]
    split
    · rfl
    · rw [if_pos (by omega)]; rfl
  have e2 : ∀ j, j < ls.length + 1 → (ls ++ [l]).getD j [] = if j < ls.length then ls.getD j [] else l := fun j hj => by
    rw [getD_app1]
    split
    · rfl
    · rw [if_pos (by omega)]
  refine ⟨by simp [hn], fun j hj => ?_, fun j hj => ?_, fun j hj => ?_, fun j hj => ?_⟩ <;> rw [List.length_append] at hj <;> have hj' : j < ls.length + 1 := hj
  · rw [nth_app1, hn, e1 j hj']
    split
    · exact h.cell j (by assumption)
    · rw [if_pos (by omega)]
  · rw [e1 j hj', e2 j hj']
    split
    · exact h.sl j (by assumption)
    · exact hA
  · rw [e2 j hj']
    split
    · exact h.lt j (by assumption)
    · exact hl
  · rw [e2 j hj']
    split
    · exact h.r32 j (by assumption)
    · exact h32
/-! Facts for walks: rows by A, elements es; lines by A. -/
section
variable {H0 : AHeap} {A : AV} {es : List (List AV)} {rows : List Rw} {ls : List (List Ce)}
theorem lenL (lo : Nat) (hA : SlH H0 1 A es) (hr : LsP es ls) (H : AHeap) (hx : Ext H0 H) : primL lo H (builtinA (ELo oc) .len #[22] 3 [A]) = some (.v (.int .i64 ls.length), H, rdTr A) := by
  have := len_SlH (ELo oc) lo 22 3 (hA.ext hx) (by kernel_rfl)
  rw [hr.len] at this; exact this
theorem ixL (lo : Nat) (hA : SlH H0 1 A es) (hr : LsP es ls) (H : AHeap) (hx : Ext H0 H) (κ : IntKind) (z : Int) (h0 : 0 ≤ z) (h1 : z < ls.length) : primL lo H (indexAddrA (ELo oc) 22 A (.v (.int κ z))) = some (ixA A es z.toNat, H, rdTr A) :=
  ix_SlH (ELo oc) lo 22 κ z (hA.ext hx) (by kernel_rfl) h0 (by rw [hr.len]; exact h1)
theorem ldL (lo : Nat) (hA : SlH H0 1 A es) (hr : LsP es ls) (H : AHeap) (hx : Ext H0 H) (j : Nat) (h : j < ls.length) : primL lo H (loadA (ELo oc) 33 (ixA A es j)) = some (bOf es j, H, rdTr A) := by
  rw [load_SlH (ELo oc) lo 33 j (hA.ext hx) (by rw [hr.len]; exact h), hr.cell j h]; rfl
end
/-! Signs. -/
theorem R32_mem {l : List Ce} : R32 l ↔ ∀ c ∈ l, -2147483648 ≤ c.r ∧ c.r ≤ 2147483647 := by
  constructor
  · intro h c hc
    obtain ⟨i, hi, rfl⟩ := List.mem_iff_getElem.1 hc
    have := h i
    rwa [List.getD_eq_getElem?_getD, List.getElem?_eq_getElem hi] at this
  · intro h i
    rw [List.getD_eq_getElem?_getD]
    rcases Nat.lt_or_ge i l.length with hi | hi
    · rw [List.getElem?_eq_getElem hi]; exact h _ (List.getElem_mem hi)
    · rw [List.getElem?_eq_none hi]; exact ⟨by decide, by decide⟩
end Go.Am
