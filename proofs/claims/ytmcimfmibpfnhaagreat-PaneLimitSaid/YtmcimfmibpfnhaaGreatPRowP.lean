
/- Rows: plain laws. What the program's Set and Erase do, and what the reference's do, is alike. -/
import Derived.Test.YtmcimfmibpfnhaaGreatPRowM2
set_option linter.all false
set_option linter.deprecated false
namespace Go.Am
variable {oc : Orc} [OrcI oc]
set_option maxRecDepth 8000
set_option maxHeartbeats 1000000

/-- A row that may be, cell by cell. -/
def rowG (l : List Ce) : Prop := l.length ≤ 300 ∧ ∀ i, i < l.length → mayC (l.getD i zeroC).r (l.getD i zeroC).w (l.getD i zeroC).a ∧
  ((l.getD i zeroC).w = 0 → 0 < i ∧ (l.getD (i - 1) zeroC).w = 2 ∧ (l.getD (i - 1) zeroC).a = (l.getD i zeroC).a) ∧ ((l.getD i zeroC).w = 2 → i + 1 < l.length ∧ (l.getD (i + 1) zeroC).w = 0)
theorem rowG_P (l : List Ce) : rowP l ↔ rowG l := by
  constructor
  · rintro ⟨h1, h2, h3⟩
    refine ⟨h1, fun i hi => ?_⟩
    obtain ⟨a, b, c⟩ := h2 i hi
    refine ⟨a, fun e => ?_, fun e => ?_⟩
    · rw [decide_eq_true e] at b
      cases i with
      | zero => cases b
      | succ k => exact ⟨Nat.succ_pos k, by simpa [openB] using b, (c b).symm⟩
    · have ho : openB l (i + 1) = true := decide_eq_true e
      rcases Nat.lt_or_ge (i + 1) l.length with hl | hl
      · obtain ⟨_, b', _⟩ := h2 (i + 1) hl
        rw [ho] at b'
        exact ⟨hl, by simpa using b'.symm⟩
      · have : i + 1 = l.length := by omega
        rw [← this, ho] at h3; cases h3
  · rintro ⟨h1, h2⟩
    have hz : ∀ i, i < l.length → openB l i = decide ((l.getD i zeroC).w = 0) := by
      intro i hi
      cases i with
      | zero =>
        symm
        rw [show openB l 0 = false from rfl, decide_eq_false_iff_not]
        intro e
        exact absurd ((h2 0 hi).2.1 e).1 (Nat.lt_irrefl 0)
      | succ k =>
        show decide _ = decide _
        rw [decide_eq_decide]
        exact ⟨fun e => ((h2 k (by omega)).2.2 e).2, fun e => ((h2 (k + 1) hi).2.1 e).2.1⟩
    refine ⟨h1, fun i hi => ⟨(h2 i hi).1, hz i hi, fun e => ?_⟩, ?_⟩
    · rw [hz i hi, decide_eq_true_eq] at e
      obtain ⟨e1, _, e3⟩ := (h2 i hi).2.1 e
      cases i with
      | zero => omega
      | succ k => exact e3.symm
    · cases hl : l.length with
      | zero => rfl
      | succ k =>
        show decide _ = false
        rw [decide_eq_false_iff_not]
        intro e
        have := ((h2 k (by omega)).2.2 e).1
        omega
instance (l : List Ce) : Decidable (rowG l) := decidable_of_iff _ (rowG_P l)

/-- By places. -/
def tab (n : Nat) (f : Nat → Ce) : List Ce := (List.range n).map f
theorem tab_len (n : Nat) (f : Nat → Ce) : (tab n f).length = n := by simp [tab]
theorem tab_at (n : Nat) (f : Nat → Ce) (i : Nat) (h : i < n) : (tab n f).getD i zeroC = f i := by simp [tab, List.getD_eq_getElem?_getD, h]
theorem ce_ext {l l' : List Ce} (h : l.length = l'.length) (he : ∀ j, j < l.length → l.getD j zeroC = l'.getD j zeroC) : l = l' := by
  apply List.ext_getElem h
  intro i h1 h2
  have := he i h1
  simpa [List.getD_eq_getElem?_getD, List.getElem?_eq_getElem h1, List.getElem?_eq_getElem h2] using this
theorem ce_set (l : List Ce) (i j : Nat) (c : Ce) : (l.set i c).getD j zeroC = if i = j ∧ j < l.length then c else l.getD j zeroC := by
  simp only [List.getD_eq_getElem?_getD, List.getElem?_set]
  by_cases h : i = j
  · subst h
    by_cases h2 : i < l.length
    · simp [h2]
    · simp [h2, List.getElem?_eq_none (Nat.le_of_not_lt h2)]
  · simp [h]

/-- What row.put does. -/
def putL (l : List Ce) (col : Nat) (new : List Ce) : List Ce := tab l.length fun j =>
  if col ≤ j ∧ j < col + new.length then new.getD (j - col) zeroC
  else if j + 1 = col ∧ (l.getD col zeroC).w = 0 then blankC
  else if j = col + new.length ∧ (l.getD j zeroC).w = 0 then blankC
  else l.getD j zeroC
theorem putL_len (l : List Ce) (col : Nat) (new : List Ce) : (putL l col new).length = l.length := tab_len _ _
theorem putL_at (l : List Ce) (col : Nat) (new : List Ce) (j : Nat) (h : j < l.length) : (putL l col new).getD j zeroC = if col ≤ j ∧ j < col + new.length then new.getD (j - col) zeroC
  else if j + 1 = col ∧ (l.getD col zeroC).w = 0 then blankC
  else if j = col + new.length ∧ (l.getD j zeroC).w = 0 then blankC
  else l.getD j zeroC := tab_at _ _ _ h

/-- A half that is left alone. -/
def lone (o : List Ce) (i : Nat) : Prop := ((o.getD i zeroC).w = 2 ∧ (i + 1 = o.length ∨ (o.getD (i + 1) zeroC).w ≠ 0)) ∨ ((o.getD i zeroC).w = 0 ∧ (i = 0 ∨ (o.getD (i - 1) zeroC).w ≠ 2))
instance (o : List Ce) (i : Nat) : Decidable (lone o i) := inferInstanceAs (Decidable (_ ∨ _))
def fixTo (o : List Ce) : Nat → List Ce
  | 0 => o
  | i + 1 => if lone (fixTo o i) i then (fixTo o i).set i blankC else fixTo o i
theorem fixTo_len (o : List Ce) (i : Nat) : (fixTo o i).length = o.length := by
  induction i with
  | zero => rfl
  | succ i ih => simp only [fixTo]; split <;> simp [ih]

def blanks (n : Nat) : List Ce := List.replicate n blankC
theorem blanks_at (n j : Nat) (h : j < n) : (blanks n).getD j zeroC = blankC := by simp [blanks, List.getD_eq_getElem?_getD, h]
theorem blanks_len (n : Nat) : (blanks n).length = n := by simp [blanks]

/-- A sign's cells, or one cell. -/
def signG (new : List Ce) : Prop := (∃ c, new = [c] ∧ c.w = 1 ∧ mayC c.r c.w c.a) ∨ (∃ c, new = [c, ⟨0, 0, c.a⟩] ∧ c.w = 2 ∧ mayC c.r c.w c.a)
theorem signG.len {new : List Ce} (h : signG new) : new.length = 1 ∨ new.length = 2 := by
  rcases h with ⟨c, rfl, _⟩ | ⟨c, rfl, _⟩
  · exact .inl rfl
  · exact .inr rfl

/-- Put: may be again. What is put is a sign, or blanks. -/
theorem put_rowG {l : List Ce} (hl : rowG l) (col : Nat) (new : List Ce) (hb : col + new.length ≤ l.length) (hn : 0 < new.length)
    (hc : ∀ i, i < new.length → mayC (new.getD i zeroC).r (new.getD i zeroC).w (new.getD i zeroC).a ∧ ((new.getD i zeroC).w = 0 → 0 < i ∧ (new.getD (i - 1) zeroC).w = 2 ∧ (new.getD (i - 1) zeroC).a = (new.getD i zeroC).a) ∧ ((new.getD i zeroC).w = 2 → i + 1 < new.length ∧ (new.getD (i + 1) zeroC).w = 0)) : rowG (putL l col new) := by
  have mb : mayC blankC.r blankC.w blankC.a := by decide
  refine ⟨by rw [putL_len]; exact hl.1, fun i hi => ?_⟩
  rw [putL_len] at hi
  obtain ⟨m1, m2, m3⟩ := hl.2 i hi
  rw [putL_at _ _ _ _ hi, putL_len]
  by_cases c1 : col ≤ i ∧ i < col + new.length
  · rw [if_pos c1]
    obtain ⟨a1, a2, a3⟩ := hc (i - col) (by omega)
    refine ⟨a1, fun e => ?_, fun e => ?_⟩
    · obtain ⟨b1, b2, b3⟩ := a2 e
      refine ⟨by omega, ?_, ?_⟩
      · rw [putL_at _ _ _ _ (by omega), if_pos (by omega), show i - 1 - col = i - col - 1 by omega]; exact b2
      · rw [putL_at _ _ _ _ (by omega), if_pos (by omega), show i - 1 - col = i - col - 1 by omega]; exact b3
    · obtain ⟨b1, b2⟩ := a3 e
      refine ⟨by omega, ?_⟩
      rw [putL_at _ _ _ _ (by omega), if_pos (by omega), show i + 1 - col = i - col + 1 by omega]; exact b2
  · rw [if_neg c1]
    by_cases c2 : i + 1 = col ∧ (l.getD col zeroC).w = 0
    · rw [if_pos c2]
      exact ⟨mb, fun e => (by cases e), fun e => (by cases e)⟩
    · rw [if_neg c2]
      by_cases c3 : i = col + new.length ∧ (l.getD i zeroC).w = 0
      · rw [if_pos c3]
        exact ⟨mb, fun e => (by cases e), fun e => (by cases e)⟩
      · rw [if_neg c3]
        refine ⟨m1, fun e => ?_, fun e => ?_⟩
        · obtain ⟨b1, b2, b3⟩ := m2 e
          have q : (putL l col new).getD (i - 1) zeroC = l.getD (i - 1) zeroC := by
            rw [putL_at _ _ _ _ (by omega), if_neg (fun z => c3 ⟨by omega, e⟩), if_neg (fun z => c1 ⟨by omega, by omega⟩), if_neg]
            rintro ⟨_, z⟩
            rw [z] at b2; cases b2
          rw [q]; exact ⟨b1, b2, b3⟩
        · obtain ⟨b1, b2⟩ := m3 e
          have q : (putL l col new).getD (i + 1) zeroC = l.getD (i + 1) zeroC := by
            rw [putL_at _ _ _ _ (by omega), if_neg, if_neg, if_neg]
            · rintro ⟨z, _⟩
              exact c1 ⟨by omega, by omega⟩
            · rintro ⟨z, z2⟩
              have k := ((hl.2 col (by omega)).2.1 z2).2.1
              rw [show col - 1 = i + 1 by omega, b2] at k; cases k
            · intro z
              exact c2 ⟨by omega, by rw [show col = i + 1 by omega]; exact b2⟩
          exact ⟨b1, by rw [q]; exact b2⟩
theorem sign_cells {new : List Ce} (h : signG new) : ∀ i, i < new.length → mayC (new.getD i zeroC).r (new.getD i zeroC).w (new.getD i zeroC).a ∧ ((new.getD i zeroC).w = 0 → 0 < i ∧ (new.getD (i - 1) zeroC).w = 2 ∧ (new.getD (i - 1) zeroC).a = (new.getD i zeroC).a) ∧ ((new.getD i zeroC).w = 2 → i + 1 < new.length ∧ (new.getD (i + 1) zeroC).w = 0) := by
  intro i hi
  rcases h with ⟨c, rfl, h1, h2⟩ | ⟨c, rfl, h1, h2⟩
  · have : i = 0 := by simp at hi; omega
    subst this
    exact ⟨h2, fun e => by simp at e; omega, fun e => by simp at e; omega⟩
  · have : i = 0 ∨ i = 1 := by simp at hi; omega
    rcases this with rfl | rfl
    · exact ⟨h2, fun e => by simp at e; omega, fun _ => ⟨by simp, by simp⟩⟩
    · refine ⟨?_, fun _ => ⟨by omega, by simpa using h1, by simp⟩, fun e => by simp at e⟩
      unfold mayC at h2 ⊢
      simp
      omega
theorem blank_cells (n : Nat) : ∀ i, i < (blanks n).length → mayC ((blanks n).getD i zeroC).r ((blanks n).getD i zeroC).w ((blanks n).getD i zeroC).a ∧ (((blanks n).getD i zeroC).w = 0 → 0 < i ∧ ((blanks n).getD (i - 1) zeroC).w = 2 ∧ ((blanks n).getD (i - 1) zeroC).a = ((blanks n).getD i zeroC).a) ∧ (((blanks n).getD i zeroC).w = 2 → i + 1 < (blanks n).length ∧ ((blanks n).getD (i + 1) zeroC).w = 0) := by
  intro i hi
  rw [blanks_len] at hi
  rw [blanks_at _ _ hi]
  exact ⟨by decide, fun e => (by cases e), fun e => (by cases e)⟩

abbrev Rw := List Ce × Bool
abbrev noRw : Rw := ([], false)
end Go.Am
