
/- Rows and lines as they lie in slices. -/
import Derived.Test.YtmcimfmibpfnhaaGreatPLinT
import Derived.Test.YtmcimfmibpfnhaaGreatAmG
set_option linter.all false
set_option linter.deprecated false
namespace Go.Am
variable {oc : Orc} [OrcI oc]
open Go.Proofs
set_option maxRecDepth 8000
set_option maxHeartbeats 4000000

/-- What a slice's element begins with. -/
def bOf (es : List (List AV)) (j : Nat) : AV := (nth [] es j).getD 0 .dead

/-- Rows that lie there, frozen. -/
structure RsP (es : List (List AV)) (rows : List Rw) : Prop where
  len : es.length = rows.length
  cell : ∀ j, j < rows.length → nth [] es j = [bOf es j, .v (.bool (rows.getD j noRw).2)]
  sl : ∀ j, j < rows.length → Sl 3 (bOf es j) (cesA (rows.getD j noRw).1)
  lt : ∀ j, j < rows.length → (rows.getD j noRw).1.length < 2 ^ 20
  r32 : ∀ j, j < rows.length → R32 (rows.getD j noRw).1

/-- Lines that lie there, frozen. -/
structure LsP (es : List (List AV)) (ls : List (List Ce)) : Prop where
  len : es.length = ls.length
  cell : ∀ j, j < ls.length → nth [] es j = [bOf es j]
  sl : ∀ j, j < ls.length → Sl 3 (bOf es j) (cesA (ls.getD j []))
  lt : ∀ j, j < ls.length → (ls.getD j []).length < 2 ^ 40
  r32 : ∀ j, j < ls.length → R32 (ls.getD j [])
theorem nth_app1 {es : List (List AV)} {c : List AV} {j : Nat} : nth [] (es ++ [c]) j = if j < es.length then nth [] es j else if j = es.length then c else [] := by
  rw [nth_getD, nth_getD, List.getD_eq_getElem?_getD, List.getD_eq_getElem?_getD, List.getElem?_append]
  split
  · rfl
  · split
    · rename_i h; subst h; simp
    · rw [List.getElem?_eq_none (by simp; omega)]; rfl
theorem getD_app1 {α : Type} {d : α} {l : List α} {c : α} {j : Nat} : (l ++ [c]).getD j d = if j < l.length then l.getD j d else if j = l.length then c else d := by
  rw [List.getD_eq_getElem?_getD, List.getD_eq_getElem?_getD, List.getElem?_append]
  split
  · rfl
  · split
    · rename_i h; subst h; simp
    · rw [List.getElem?_eq_none (by simp; omega)]; rfl
theorem RsP.nil : RsP [] [] := ⟨rfl, fun j h => absurd h (Nat.not_lt_zero _), fun j h => absurd h (Nat.not_lt_zero _), fun j h => absurd h (Nat.not_lt_zero _), fun j h => absurd h (Nat.not_lt_zero _)⟩
theorem LsP.nil : LsP [] [] := ⟨rfl, fun j h => absurd h (Nat.not_lt_zero _), fun j h => absurd h (Nat.not_lt_zero _), fun j h => absurd h (Nat.not_lt_zero _), fun j h => absurd h (Nat.not_lt_zero _)⟩
theorem LsP.add {es : List (List AV)} {ls : List (List Ce)} (h : LsP es ls) {A : AV} {l : List Ce} (hA : Sl 3 A (cesA l)) (hl : l.length < 2 ^ 40) (h32 : R32 l) : LsP (es ++ [[A]]) (ls ++ [l]) := by
  have hn := h.len
  have e1 : ∀ j, j < ls.length + 1 → bOf (es ++ [[A]]) j = if j < ls.length then bOf es j else A := fun j hj => by
    unfold bOf
    rw [nth_app1, hn]
    split
    · rfl
    · rw [if_pos (by omega)]; rfl
  have e2 : ∀ j, j < ls.length + 1 → (ls ++ [l]).getD j [] = if j < ls.length then ls.getD j [] else l := fun j hj => by
    rw [getD_app1]
    split
    · rfl
    · rw [if_pos (by omega)]
  refine ⟨by simp [hn], fun j hj => ?_, fun j hj => ?_, fun j hj => ?_, fun j hj => ?_⟩ <;> rw [List.length_append] at hj <;> have hj' : j < ls.length + 1 := hj
  · rw [nth_app1, hn, e1 j hj']
    split
    · exact h.cell j (by assumption)
    · rw [if_pos (by omega)]
  · rw [e1 j hj', e2 j hj']
    split
    · exact h.sl j (by assumption)
    · exact hA
  · rw [e2 j hj']
    split
    · exact h.lt j (by assumption)
    · exact hl
  · rw [e2 j hj']
    split
    · exact h.r32 j (by assumption)
    · exact h32
theorem RsP.add {es : List (List AV)} {rows : List Rw} (h : RsP es rows) {A : AV} {r : Rw} (hA : Sl 3 A (cesA r.1)) (hl : r.1.length < 2 ^ 20) (h32 : R32 r.1) : RsP (es ++ [[A, .v (.bool r.2)]]) (rows ++ [r]) := by
  have hn := h.len
  have e1 : ∀ j, j < rows.length + 1 → bOf (es ++ [[A, .v (.bool r.2)]]) j = if j < rows.length then bOf es j else A := fun j hj => by
    unfold bOf
    rw [nth_app1, hn]
    split
    · rfl
    · rw [if_pos (by omega)]; rfl
  have e2 : ∀ j, j < rows.length + 1 → (rows ++ [r]).getD j noRw = if j < rows.length then rows.getD j noRw else r := fun j hj => by
    rw [getD_app1]
    split
    · rfl
    · rw [if_pos (by omega)]
  refine ⟨by simp [hn], fun j hj => ?_, fun j hj => ?_, fun j hj => ?_, fun j hj => ?_⟩ <;> rw [List.length_append] at hj <;> have hj' : j < rows.length + 1 := hj
  · rw [nth_app1, hn, e1 j hj', e2 j hj']
    split
    · exact h.cell j (by assumption)
    · rw [if_pos (by omega)]
  · rw [e1 j hj', e2 j hj']
    split
    · exact h.sl j (by assumption)
    · exact hA
  · rw [e2 j hj']
    split
    · exact h.lt j (by assumption)
    · exact hl
  · rw [e2 j hj']
    split
    · exact h.r32 j (by assumption)
    · exact h32
theorem bOf_cut (es : List (List AV)) (a b j : Nat) (h : a + j < b) : bOf ((es.drop a).take (b - a)) j = bOf es (a + j) := by
  have e : nth [] ((es.drop a).take (b - a)) j = nth [] es (a + j) := by
    rw [nth_getD, nth_getD, List.getD_eq_getElem?_getD, List.getElem?_take, if_pos (by omega), List.getElem?_drop, List.getD_eq_getElem?_getD]
  unfold bOf
  rw [e]
theorem RsP.cut {es : List (List AV)} {rows : List Rw} (h : RsP es rows) (a b : Nat) (h1 : a ≤ b) (h2 : b ≤ rows.length) : RsP ((es.drop a).take (b - a)) ((rows.drop a).take (b - a)) := by
  have hn := h.len
  have e1 : ∀ j, j < b - a → nth [] ((es.drop a).take (b - a)) j = nth [] es (a + j) := fun j hj => by
    rw [nth_getD, nth_getD, List.getD_eq_getElem?_getD, List.getElem?_take, if_pos (by omega), List.getElem?_drop, List.getD_eq_getElem?_getD]
  have e2 : ∀ j, j < b - a → ((rows.drop a).take (b - a)).getD j noRw = rows.getD (a + j) noRw := fun j hj => by
    rw [List.getD_eq_getElem?_getD, List.getElem?_take, if_pos (by omega), List.getElem?_drop, List.getD_eq_getElem?_getD]
  have e3 : ((rows.drop a).take (b - a)).length = b - a := by rw [List.length_take, List.length_drop]; omega
  refine ⟨by rw [e3, List.length_take, List.length_drop]; omega, fun j hj => ?_, fun j hj => ?_, fun j hj => ?_, fun j hj => ?_⟩ <;> rw [e3] at hj
  · rw [e1 j hj, e2 j hj, bOf_cut _ _ _ _ (by omega)]; exact h.cell _ (by omega)
  · rw [e2 j hj, bOf_cut _ _ _ _ (by omega)]; exact h.sl _ (by omega)
  · rw [e2 j hj]; exact h.lt _ (by omega)
  · rw [e2 j hj]; exact h.r32 _ (by omega)
theorem LsP.cut {es : List (List AV)} {ls : List (List Ce)} (h : LsP es ls) (a b : Nat) (h1 : a ≤ b) (h2 : b ≤ ls.length) : LsP ((es.drop a).take (b - a)) ((ls.drop a).take (b - a)) := by
  have hn := h.len
  have e1 : ∀ j, j < b - a → nth [] ((es.drop a).take (b - a)) j = nth [] es (a + j) := fun j hj => by
    rw [nth_getD, nth_getD, List.getD_eq_getElem?_getD, List.getElem?_take, if_pos (by omega), List.getElem?_drop, List.getD_eq_getElem?_getD]
  have e2 : ∀ j, j < b - a → ((ls.drop a).take (b - a)).getD j [] = ls.getD (a + j) [] := fun j hj => by
    rw [List.getD_eq_getElem?_getD, List.getElem?_take, if_pos (by omega), List.getElem?_drop, List.getD_eq_getElem?_getD]
  have e3 : ((ls.drop a).take (b - a)).length = b - a := by rw [List.length_take, List.length_drop]; omega
  refine ⟨by rw [e3, List.length_take, List.length_drop]; omega, fun j hj => ?_, fun j hj => ?_, fun j hj => ?_, fun j hj => ?_⟩ <;> rw [e3] at hj
  · rw [e1 j hj, bOf_cut _ _ _ _ (by omega)]; exact h.cell _ (by omega)
  · rw [e2 j hj, bOf_cut _ _ _ _ (by omega)]; exact h.sl _ (by omega)
  · rw [e2 j hj]; exact h.lt _ (by omega)
  · rw [e2 j hj]; exact h.r32 _ (by omega)
/-! Facts for walks: rows by A, elements es; lines by A. -/
section
variable {H0 : AHeap} {A : AV} {es : List (List AV)} {rows : List Rw} {ls : List (List Ce)}
theorem ixR (lo : Nat) (hA : SlH H0 2 A es) (hr : RsP es rows) (H : AHeap) (hx : Ext H0 H) (κ : IntKind) (z : Int) (h0 : 0 ≤ z) (h1 : z < rows.length) : primL lo H (indexAddrA (ELo oc) 22 A (.v (.int κ z))) = some (ixA A es z.toNat, H, rdTr A) :=
  ix_SlH (ELo oc) lo 22 κ z (hA.ext hx) (by kernel_rfl) h0 (by rw [hr.len]; exact h1)
theorem ldR (lo : Nat) (hA : SlH H0 2 A es) (hr : RsP es rows) (H : AHeap) (hx : Ext H0 H) (j : Nat) (h : j < rows.length) : primL lo H (loadA (ELo oc) 48 (ixA A es j)) = some (.agg [bOf es j, .v (.bool (rows.getD j noRw).2)], H, rdTr A) := by
  rw [load_SlH (ELo oc) lo 48 j (hA.ext hx) (by rw [hr.len]; exact h), hr.cell j h]; rfl
theorem ixL (lo : Nat) (hA : SlH H0 1 A es) (hr : LsP es ls) (H : AHeap) (hx : Ext H0 H) (κ : IntKind) (z : Int) (h0 : 0 ≤ z) (h1 : z < ls.length) : primL lo H (indexAddrA (ELo oc) 23 A (.v (.int κ z))) = some (ixA A es z.toNat, H, rdTr A) :=
  ix_SlH (ELo oc) lo 23 κ z (hA.ext hx) (by kernel_rfl) h0 (by rw [hr.len]; exact h1)
theorem ldL (lo : Nat) (hA : SlH H0 1 A es) (hr : LsP es ls) (H : AHeap) (hx : Ext H0 H) (j : Nat) (h : j < ls.length) : primL lo H (loadA (ELo oc) 41 (ixA A es j)) = some (bOf es j, H, rdTr A) := by
  rw [load_SlH (ELo oc) lo 41 j (hA.ext hx) (by rw [hr.len]; exact h), hr.cell j h]; rfl
end
/-! Signs. -/
theorem RsP.mem {es : List (List AV)} {rows : List Rw} (h : RsP es rows) : ∀ r ∈ rows, R32 r.1 ∧ r.1.length < 2 ^ 20 := fun r hr => by
  obtain ⟨j, hj, rfl⟩ := List.mem_iff_getElem.1 hr
  have h1 := h.r32 j hj
  have h2 := h.lt j hj
  rw [List.getD_eq_getElem?_getD, List.getElem?_eq_getElem hj] at h1 h2
  exact ⟨h1, h2⟩
end Go.Am
