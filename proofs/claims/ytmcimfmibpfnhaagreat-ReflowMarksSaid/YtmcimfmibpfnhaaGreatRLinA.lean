
/- Rows and lines as they lie in slices. -/
import Derived.Test.YtmcimfmibpfnhaaGreatRLinQ
import Derived.Test.YtmcimfmibpfnhaaGreatAmG
set_option linter.all false
set_option linter.deprecated false
namespace Go.Am
variable {oc : Orc} [OrcI oc]
open Go.Proofs
set_option maxRecDepth 8000
set_option maxHeartbeats 4000000

/-- What a slice's element begins with. -/
def bOf (es : List (List AV)) (j : Nat) : AV := (nth [] es j).getD 0 .dead

/-- Rows that lie there, frozen. -/
structure RsP (es : List (List AV)) (rows : List Rw) : Prop where
  len : es.length = rows.length
  cell : ∀ j, j < rows.length → nth [] es j = [bOf es j, .v (.bool (rows.getD j noRw).2)]
  sl : ∀ j, j < rows.length → Sl 3 (bOf es j) (cesA (rows.getD j noRw).1)
  lt : ∀ j, j < rows.length → (rows.getD j noRw).1.length < 2 ^ 20
  r32 : ∀ j, j < rows.length → R32 (rows.getD j noRw).1

/-- Lines that lie there, frozen. -/
structure LsP (es : List (List AV)) (ls : List (List Ce)) : Prop where
  len : es.length = ls.length
  cell : ∀ j, j < ls.length → nth [] es j = [bOf es j]
  sl : ∀ j, j < ls.length → Sl 3 (bOf es j) (cesA (ls.getD j []))
  lt : ∀ j, j < ls.length → (ls.getD j []).length < 2 ^ 40
  r32 : ∀ j, j < ls.length → R32 (ls.getD j [])
theorem nth_app1 {es : List (List AV)} {c : List AV} {j : Nat} : nth [] (es ++ [c]) j = if j < es.length then nth [] es j else if j = es.length then c else [] := by
  rw [nth_getD, nth_getD, List.getD_eq_getElem?_getD, List.getD_eq_getElem?_getD, List.getElem?_append]
  split
  · rfl
  · split
    · rename_i h; subst h; simp
    · rw [List.getElem?_eq_none (by simp; omega)]; rfl
theorem getD_app1 {α : Type} {d : α} {l : List α} {c : α} {j : Nat} : (l ++ [c]).getD j d = if j < l.length then l.getD j d else if j = l.length then c else d := by
  rw [List.getD_eq_getElem?_getD, List.getD_eq_getElem?_getD, List.getElem?_append]
  split
  · rfl
  · split
    · rename_i h; subst h; simp
    · rw [List.getElem?_eq_none (by simp; omega)]; rfl
theorem RsP.nil : RsP [] [] := ⟨rfl, fun j h => absurd h (Nat.not_lt_zero _), fun j h => absurd h (Nat.not_lt_zero _), fun j h => absurd h (Nat.not_lt_zero _), fun j h => absurd h (Nat.not_lt_zero _)⟩
theorem LsP.nil : LsP [] [] := ⟨rfl, fun j h => absurd h (Nat.not_lt_zero _), fun j h => absurd h (Nat.not_lt_zero _), fun j h => absurd h (Nat.not_lt_zero _), fun j h => absurd h (Nat.not_lt_zero _)⟩
theorem LsP.add {es : List (List AV)} {ls : List (List Ce)} (h : LsP es ls) {A : AV} {l : List Ce} (hA : Sl 3 A (cesA l)) (hl : l.length < 2 ^ 40) (h32 : R32 l) : LsP (es ++ [[A]]) (ls ++ [l]) := by
  have hn := h.len
  have e1 : ∀ j, j < ls.length + 1 → bOf (es ++ [[A]]) j = if j < ls.length then bOf es j else A := fun j hj => by
    unfold bOf
    rw [nth_app1, hn]
    split
    · rfl
    · rw [if_pos (by omega)]; rfl
  have e2 : ∀ j, j < ls.length + 1 → (ls ++ [l]).getD j [] = if j < ls.length then ls.getD j [] else l := fun j hj => by
    rw [getD_app1]
    split
    · rfl
    · rw [if_pos (by omega)]
  refine ⟨by simp [hn], fun j hj => ?_, fun j hj => ?_, fun j hj => ?_, fun j hj => ?_⟩ <;> rw [List.length_append] at hj <;> have hj' : j < ls.length + 1 := hj
  · rw [nth_app1, hn, e1 j hj']
    split
    · exact h.cell j (by assumption)
    · rw [if_pos (by omega)]
  · rw [e1 j hj', e2 j hj']
    split
    · exact h.sl j (by assumption)
    · exact hA
  · rw [e2 j hj']
    split
    · exact h.lt j (by assumption)
    · exact hl
  · rw [e2 j hj']
    split
    · exact h.r32 j (by assumption)
    · exact h32
theorem RsP.add {es : List (List AV)} {rows : List Rw} (h : RsP es rows) {A : AV} {r : Rw} (hA : Sl 3 A (cesA r.1)) (hl : r.1.length < 2 ^ 20) (h32 : R32 r.1) : RsP (es ++ [[A, .v (.bool r.2)]]) (rows ++ [r]) := by
  have hn := h.len
  have e1 : ∀ j, j < rows.length + 1 → bOf (es ++ [[A, .v (.bool r.2)]]) j = if j < rows.length then bOf es j else A := fun j hj => by
    unfold bOf
    rw [nth_app1, hn]
    split
    · rfl
    · rw [if_pos (by omega)]; rfl
  have e2 : ∀ j, j < rows.length + 1 → (rows ++ [r]).getD j noRw = if j < rows.length then rows.getD j noRw else r := fun j hj => by
    rw [getD_app1]
    split
    · rfl
    · rw [if_pos (by omega)]
  refine ⟨by simp [hn], fun j hj => ?_, fun j hj => ?_, fun j hj => ?_, fun j hj => ?_⟩ <;> rw [List.length_append] at hj <;> have hj' : j < rows.length + 1 := hj
  · rw [nth_app1, hn, e1 j hj', e2 j hj']
    split
    · exact h.cell j (by assumption)
    · rw [if_pos (by omega)]
  · rw [e1 j hj', e2 j hj']
    split
    · exact h.sl j (by assumption)
    · exact hA
  · rw [e2 j hj']
    split
    · exact h.lt j (by assumption)
    · exact hl
  · rw [e2 j hj']
    split
    · exact h.r32 j (by assumption)
    · exact h32
theorem bOf_cut (es : List (List AV)) (a b j : Nat) (h : a + j < b) : bOf ((es.drop a).take (b - a)) j = bOf es (a + j) := by
  have e : nth [] ((es.drop a).take (b - a)) j = nth [] es (a + j) := by
    rw [nth_getD, nth_getD, List.getD_eq_getElem?_getD, List.getElem?_take, if_pos (by omega), List.getElem?_drop, List.getD_eq_getElem?_getD]
  unfold bOf
  rw [e]
theorem RsP.cut {es : List (List AV)} {rows : List Rw} (h : RsP es rows) (a b : Nat) (h1 : a ≤ b) (h2 : b ≤ rows.length) : RsP ((es.drop a).take (b - a)) ((rows.drop a).take (b - a)) := by
  have hn := h.len
  have e1 : ∀ j, j < b - a → nth [] ((es.drop a).take (b - a)) j = nth [] es (a + j) := fun j hj => by
    rw [nth_getD, nth_getD, List.getD_eq_getElem?_getD, List.getElem?_take, if_pos (by omega), List.getElem?_drop, List.getD_eq_getElem?_getD]
  have e2 : ∀ j, j < b - a → ((rows.drop a).take (b - a)).getD j noRw = rows.getD (a + j) noRw := fun j hj => by
    rw [List.getD_eq_getElem?_getD, List.getElem?_take, if_pos (by omega), List.getElem?_drop, List.getD_eq_getElem?_getD]
  have e3 : ((rows.drop a).take (b - a)).length = b - a := by rw [List.length_take, List.length_drop]; omega
  refine ⟨by rw [e3, List.length_take, List.length_drop]; omega, fun j hj => ?_, fun j hj => ?_, fun j hj => ?_, fun j hj => ?_⟩ <;> rw [e3] at hj
  · rw [e1 j hj, e2 j hj, bOf_cut _ _ _ _ (by omega)]; exact h.cell _ (by omega)
  · rw [e2 j hj, bOf_cut _ _ _ _ (by omega)]; exact h.sl _ (by omega)
  · rw [e2 j hj]; exact h.lt _ (by omega)
  · rw [e2 j hj]; exact h.r32 _ (by omega)
theorem LsP.cut {es : List (List AV)} {ls : List (List Ce)} (h : LsP es ls) (a b : Nat) (h1 : a ≤ b) (h2 : b ≤ ls.length) : LsP ((es.drop a).take (b - a)) ((ls.drop a).take (b - a)) := by
  have hn := h.len
  have e1 : ∀ j, j < b - a → nth [] ((es.drop a).take (b - a)) j = nth [] es (a + j) := fun j hj => by
    rw [nth_getD, nth_getD, List.getD_eq_getElem?_getD, List.getElem?_take, if_pos (by omega), List.getElem?_drop, List.getD_eq_getElem?_getD]
  have e2 : ∀ j, j < b - a → ((ls.drop a).take (b - a)).getD j [] = ls.getD (a + j) [] := fun j hj => by
    rw [List.getD_eq_getElem?_getD, List.getElem?_take, if_pos (by omega), List.getElem?_drop, List.getD_eq_getElem?_getD]
  have e3 : ((ls.drop a).take (b - a)).length = b - a := by rw [List.length_take, List.length_drop]; omega
  refine ⟨by rw [e3, List.length_take, List.length_drop]; omega, fun j hj => ?_, fun j hj => ?_, fun j hj => ?_, fun j hj => ?_⟩ <;> rw [e3] at hj
  · rw [e1 j hj, bOf_cut _ _ _ _ (by omega)]; exact h.cell _ (by omega)
  · rw [e2 j hj, bOf_cut _ _ _ _ (by omega)]; exact h.sl _ (by omega)
  · rw [e2 j hj]; exact h.lt _ (by omega)
  · rw [e2 j hj]; exact h.r32 _ (by omega)
/-! Facts for walks: rows by A, elements es; lines by A. -/
section
variable {H0 : AHeap} {A : AV} {es : List (List AV)} {rows : List Rw} {ls : List (List Ce)}
theorem lenR (lo : Nat) (hA : SlH H0 2 A es) (hr : RsP es rows) (H : AHeap) (hx : Ext H0 H) : primL lo H (builtinA (ELo oc) .len #[22] 3 [A]) = some (.v (.int .i64 rows.length), H, rdTr A) := by
  have := len_SlH (ELo oc) lo 22 3 (hA.ext hx) (by kernel_rfl)
  rw [hr.len] at this; exact this
theorem ixR (lo : Nat) (hA : SlH H0 2 A es) (hr : RsP es rows) (H : AHeap) (hx : Ext H0 H) (κ : IntKind) (z : Int) (h0 : 0 ≤ z) (h1 : z < rows.length) : primL lo H (indexAddrA (ELo oc) 22 A (.v (.int κ z))) = some (ixA A es z.toNat, H, rdTr A) :=
  ix_SlH (ELo oc) lo 22 κ z (hA.ext hx) (by kernel_rfl) h0 (by rw [hr.len]; exact h1)
theorem ldR (lo : Nat) (hA : SlH H0 2 A es) (hr : RsP es rows) (H : AHeap) (hx : Ext H0 H) (j : Nat) (h : j < rows.length) : primL lo H (loadA (ELo oc) 48 (ixA A es j)) = some (.agg [bOf es j, .v (.bool (rows.getD j noRw).2)], H, rdTr A) := by
  rw [load_SlH (ELo oc) lo 48 j (hA.ext hx) (by rw [hr.len]; exact h), hr.cell j h]; rfl
theorem slR_hi (lo : Nat) (hA : SlH H0 2 A es) (hr : RsP es rows) (H : AHeap) (hx : Ext H0 H) (κ : IntKind) (z : Int) (h0 : 0 ≤ z) (h1 : z ≤ rows.length) : primL lo H (sliceA (ELo oc) 22 A none (some (.v (.int κ z))) none) = some (cutA A 0 z.toNat, H, rdTr A) :=
  slice_SlH (ELo oc) lo (by kernel_rfl) (hA.ext hx) none _ (bound_none 0) (bound_some κ z _ h0) (Nat.zero_le _) (by have := hr.len; omega)
theorem slR_lohi (lo : Nat) (hA : SlH H0 2 A es) (hr : RsP es rows) (H : AHeap) (hx : Ext H0 H) (κ κ' : IntKind) (y z : Int) (h : 0 ≤ y) (h0 : y ≤ z) (h1 : z ≤ rows.length) : primL lo H (sliceA (ELo oc) 22 A (some (.v (.int κ y))) (some (.v (.int κ' z))) none) = some (cutA A y.toNat z.toNat, H, rdTr A) :=
  slice_SlH (ELo oc) lo (by kernel_rfl) (hA.ext hx) _ _ (bound_some κ y _ h) (bound_some κ' z _ (by omega)) (by omega) (by have := hr.len; omega)
theorem lenL (lo : Nat) (hA : SlH H0 1 A es) (hr : LsP es ls) (H : AHeap) (hx : Ext H0 H) : primL lo H (builtinA (ELo oc) .len #[23] 3 [A]) = some (.v (.int .i64 ls.length), H, rdTr A) := by
  have := len_SlH (ELo oc) lo 23 3 (hA.ext hx) (by kernel_rfl)
  rw [hr.len] at this; exact this
theorem ixL (lo : Nat) (hA : SlH H0 1 A es) (hr : LsP es ls) (H : AHeap) (hx : Ext H0 H) (κ : IntKind) (z : Int) (h0 : 0 ≤ z) (h1 : z < ls.length) : primL lo H (indexAddrA (ELo oc) 23 A (.v (.int κ z))) = some (ixA A es z.toNat, H, rdTr A) :=
  ix_SlH (ELo oc) lo 23 κ z (hA.ext hx) (by kernel_rfl) h0 (by rw [hr.len]; exact h1)
theorem ldL (lo : Nat) (hA : SlH H0 1 A es) (hr : LsP es ls) (H : AHeap) (hx : Ext H0 H) (j : Nat) (h : j < ls.length) : primL lo H (loadA (ELo oc) 41 (ixA A es j)) = some (bOf es j, H, rdTr A) := by
  rw [load_SlH (ELo oc) lo 41 j (hA.ext hx) (by rw [hr.len]; exact h), hr.cell j h]; rfl
theorem slL_hi (lo : Nat) (hA : SlH H0 1 A es) (hr : LsP es ls) (H : AHeap) (hx : Ext H0 H) (κ : IntKind) (z : Int) (h0 : 0 ≤ z) (h1 : z ≤ ls.length) : primL lo H (sliceA (ELo oc) 23 A none (some (.v (.int κ z))) none) = some (cutA A 0 z.toNat, H, rdTr A) :=
  slice_SlH (ELo oc) lo (by kernel_rfl) (hA.ext hx) none _ (bound_none 0) (bound_some κ z _ h0) (Nat.zero_le _) (by have := hr.len; omega)
end
/-! Signs. -/
theorem R32_app {a b : List Ce} (ha : R32 a) (hb : R32 b) : R32 (a ++ b) := fun i => by
  rw [List.getD_eq_getElem?_getD, List.getElem?_append]
  split
  · have := ha i; rwa [List.getD_eq_getElem?_getD] at this
  · have := hb (i - a.length); rwa [List.getD_eq_getElem?_getD] at this
theorem R32_mem {l : List Ce} : R32 l ↔ ∀ c ∈ l, -2147483648 ≤ c.r ∧ c.r ≤ 2147483647 := by
  constructor
  · intro h c hc
    obtain ⟨i, hi, rfl⟩ := List.mem_iff_getElem.1 hc
    have := h i
    rwa [List.getD_eq_getElem?_getD, List.getElem?_eq_getElem hi] at this
  · intro h i
    rw [List.getD_eq_getElem?_getD]
    rcases Nat.lt_or_ge i l.length with hi | hi
    · rw [List.getElem?_eq_getElem hi]; exact h _ (List.getElem_mem hi)
    · rw [List.getElem?_eq_none hi]; exact ⟨by decide, by decide⟩
theorem R32_trim {l : List Ce} (h : R32 l) : R32 (trimL l) := R32_mem.2 fun c hc => R32_mem.1 h c (List.mem_of_mem_take hc)
theorem sigL_len (l : List Ce) : (sigL l).length ≤ l.length := List.length_filter_le _ _
theorem sigL_take {l : List Ce} {i : Nat} (h : i < l.length) : sigL (l.take (i + 1)) = sigL (l.take i) ++ (if isSig (l.getD i zeroC) = true then [l.getD i zeroC] else []) := by
  rw [List.take_add_one, List.getElem?_eq_getElem h, sigL_app, List.getD_eq_getElem?_getD, List.getElem?_eq_getElem h]
  congr 1
  show List.filter isSig [l[i]] = _
  rw [List.filter_cons, List.filter_nil]
  rfl
theorem sndR_sub (r : Rw) : ∀ c ∈ (sndR r).1, c ∈ r.1 := fun c hc => by
  unfold sndR at hc
  split at hc
  · exact hc
  · cases hc
theorem R32_sigR {r : Rw} (h : R32 r.1) : R32 (sigR r) := R32_mem.2 fun c hc => R32_mem.1 h c (sndR_sub r c (List.mem_filter.1 hc).1)
theorem sigR_300 (r : Rw) : (sigR r).length ≤ 300 := by
  have h : (sndR r).1.length ≤ 300 := by
    unfold sndR
    split
    · rename_i h; exact h.1
    · exact Nat.zero_le _
  have := sigL_len (sndR r).1
  show (sigL _).length ≤ 300
  omega
theorem joinG_le (rs : List Rw) : ∀ acc, (joinG acc rs).length ≤ rs.length := by
  induction rs with
  | nil => intro _; exact Nat.le_refl 0
  | cons r rs ih =>
    intro acc
    by_cases hc : (sndR r).2 = true ∧ rs ≠ []
    · rw [joinG_wrap hc.1 hc.2, List.length_cons]
      have := ih (acc ++ sigR r); omega
    · rw [joinG_end hc, List.length_cons, List.length_cons]
      have := ih []; omega
theorem joinG_bd (rs : List Rw) (h : ∀ r ∈ rs, R32 r.1) : ∀ acc, R32 acc → ∀ l ∈ joinG acc rs, l.length ≤ acc.length + rs.length * 300 ∧ R32 l := by
  induction rs with
  | nil => intro _ _ l hl; cases hl
  | cons r rs ih =>
    intro acc ha l hl
    have hr := h r List.mem_cons_self
    have h3 := sigR_300 r
    have ih' := ih fun x hx => h x (List.mem_cons_of_mem _ hx)
    rw [List.length_cons]
    by_cases hc : (sndR r).2 = true ∧ rs ≠ []
    · rw [joinG_wrap hc.1 hc.2] at hl
      have := ih' (acc ++ sigR r) (R32_app ha (R32_sigR hr)) l hl
      rw [List.length_append] at this
      exact ⟨by omega, this.2⟩
    · rw [joinG_end hc] at hl
      rcases List.mem_cons.1 hl with rfl | hl
      · have := trimL_len (acc ++ sigR r)
        have := usedN_le (acc ++ sigR r) (acc ++ sigR r).length
        rw [List.length_append] at this
        exact ⟨by rw [trimL_len, List.length_append]; omega, R32_trim (R32_app ha (R32_sigR hr))⟩
      · have := ih' [] (R32_mem.2 fun c hc => by cases hc) l hl
        rw [List.length_nil] at this
        exact ⟨by omega, this.2⟩
theorem RsP.mem {es : List (List AV)} {rows : List Rw} (h : RsP es rows) : ∀ r ∈ rows, R32 r.1 ∧ r.1.length < 2 ^ 20 := fun r hr => by
  obtain ⟨j, hj, rfl⟩ := List.mem_iff_getElem.1 hr
  have h1 := h.r32 j hj
  have h2 := h.lt j hj
  rw [List.getD_eq_getElem?_getD, List.getElem?_eq_getElem hj] at h1 h2
  exact ⟨h1, h2⟩
theorem joinL_bd {es : List (List AV)} {rows : List Rw} (h : RsP es rows) (j : Nat) (hj : j < (joinL rows).length) : ((joinL rows).getD j []).length ≤ rows.length * 300 ∧ R32 ((joinL rows).getD j []) := by
  have hm : (joinL rows).getD j [] ∈ joinL rows := by rw [List.getD_eq_getElem?_getD, List.getElem?_eq_getElem hj]; exact List.getElem_mem hj
  have := joinG_bd rows (fun r hr => (h.mem r hr).1) [] (R32_mem.2 fun c hc => by cases hc) _ hm
  rw [List.length_nil, Nat.zero_add] at this
  exact this
end Go.Am
