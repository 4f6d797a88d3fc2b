
/- Lines, plainly: rows joined, lines laid out, places. -/
import Derived.Test.YtmcimfmibpfnhaaGreatRRowD
import Derived.Test.YtmcimfmibpfnhaaGreatRRowP
set_option linter.all false
set_option linter.deprecated false
namespace Go.Am
variable {oc : Orc} [OrcI oc]
set_option maxRecDepth 8000
set_option maxHeartbeats 1000000
/-! Cells. -/
def lineC (c : Ce) : Prop := mayC c.r c.w c.a ∧ c.w ≠ 0 ∧ c ≠ padC
instance (c : Ce) : Decidable (lineC c) := inferInstanceAs (Decidable (_ ∧ _))
def lineG (l : List Ce) : Prop := ∀ c ∈ l, lineC c
instance (l : List Ce) : Decidable (lineG l) := inferInstanceAs (Decidable (∀ c ∈ l, lineC c))

/-- The cells that a sign takes. -/
def cellsC (c : Ce) : List Ce := if c.w = 2 then [c, ⟨0, 0, c.a⟩] else [c]
theorem lineC.w {c : Ce} (h : lineC c) : c.w = 1 ∨ c.w = 2 := by
  obtain ⟨⟨_, h1⟩, h2, h3⟩ := h
  rcases h1 with ⟨a, b, d⟩ | ⟨a, _⟩ | ⟨a, _⟩
  · exact absurd (Ce.eqv.2 ⟨a, b, d⟩) h3
  · exact absurd a h2
  · exact a
theorem cellsC_len {c : Ce} (h : lineC c) : ((cellsC c).length : Int) = c.w := by
  unfold cellsC
  rcases h.w with e | e
  · rw [if_neg (by omega), e]; rfl
  · rw [if_pos e, e]; rfl
theorem cellsC_len' {c : Ce} (h : lineC c) : (cellsC c).length = c.w.toNat := by have := cellsC_len h; omega
/-! Trimmed. -/
/-! Rows joined. -/
/-! Lines laid out. -/
def lay (w : Nat) : List Ce → List Ce → List Rw
  | cur, [] => [(cur ++ blanks (w - cur.length), false)]
  | cur, c :: l => if w < cur.length + c.w.toNat then ((if cur.length < w then cur ++ [padC] else cur), true) :: lay w (cellsC c) l else lay w (cur ++ cellsC c) l
def mayL (l : List Ce) (w : Int) : Prop := 2 ≤ w ∧ w ≤ 300 ∧ lineG l
instance (l : List Ce) (w : Int) : Decidable (mayL l w) := inferInstanceAs (Decidable (_ ∧ _))
def layL (l : List Ce) (w : Int) : List Rw := if mayL l w then lay w.toNat [] l else []
def allL (ls : List (List Ce)) (w : Int) : List Rw := ls.flatMap fun l => layL l w
theorem lay_ne (w : Nat) (cur l : List Ce) : lay w cur l ≠ [] := by
  induction l generalizing cur with
  | nil => exact List.cons_ne_nil _ _
  | cons c l ih =>
    unfold lay
    split
    · exact List.cons_ne_nil _ _
    · exact ih _

/-- Cells that are whole signs. -/
def wfC : List Ce → Prop
  | [] => True
  | [c] => mayC c.r c.w c.a ∧ c.w = 1
  | c :: d :: l => mayC c.r c.w c.a ∧ ((c.w = 1 ∧ wfC (d :: l)) ∨ (c.w = 2 ∧ d = ⟨0, 0, c.a⟩ ∧ wfC l))
def rowQ (l : List Ce) (i : Nat) : Prop := mayC (l.getD i zeroC).r (l.getD i zeroC).w (l.getD i zeroC).a ∧
  ((l.getD i zeroC).w = 0 → 0 < i ∧ (l.getD (i - 1) zeroC).w = 2 ∧ (l.getD (i - 1) zeroC).a = (l.getD i zeroC).a) ∧ ((l.getD i zeroC).w = 2 → i + 1 < l.length ∧ (l.getD (i + 1) zeroC).w = 0)
theorem rowQ_cons {c : Ce} {l : List Ce} {i : Nat} (h : rowQ l i) : rowQ (c :: l) (i + 1) := by
  obtain ⟨h1, h2, h3⟩ := h
  refine ⟨h1, fun e => ?_, fun e => ?_⟩
  · obtain ⟨a, b, d⟩ := h2 e
    obtain ⟨k, rfl⟩ : ∃ k, i = k + 1 := ⟨i - 1, by omega⟩
    exact ⟨by omega, b, d⟩
  · obtain ⟨a, b⟩ := h3 e
    exact ⟨by simp only [List.length_cons]; omega, b⟩
theorem wfC_Q : ∀ (l : List Ce), wfC l → ∀ i, i < l.length → rowQ l i
  | [], _, i, hi => absurd hi (Nat.not_lt_zero _)
  | [c], h, i, hi => by
    have : i = 0 := by simp at hi; exact hi
    subst this
    exact ⟨h.1, fun e => absurd (h.2.symm.trans e) (by decide), fun e => absurd (h.2.symm.trans e) (by decide)⟩
  | c :: d :: l, h, i, hi => by
    obtain ⟨h1, ⟨h2, h3⟩ | ⟨h2, h3, h4⟩⟩ := h
    · cases i with
      | zero => exact ⟨h1, fun e => absurd (h2.symm.trans e) (by decide), fun e => absurd (h2.symm.trans e) (by decide)⟩
      | succ i => exact rowQ_cons (wfC_Q (d :: l) h3 i (by simpa using hi))
    · subst h3
      cases i with
      | zero => exact ⟨h1, fun e => absurd (h2.symm.trans e) (by decide), fun _ => ⟨by simp, rfl⟩⟩
      | succ i =>
        cases i with
        | zero => exact ⟨⟨h1.1, .inr (.inl ⟨rfl, rfl⟩)⟩, fun _ => ⟨by decide, h2, rfl⟩, fun e => absurd e (by decide : ¬ (0 : Int) = 2)⟩
        | succ i => exact rowQ_cons (rowQ_cons (wfC_Q l h4 i (by simpa using hi)))
theorem wfC_G {l : List Ce} (h : wfC l) (hl : l.length ≤ 300) : rowG l := ⟨hl, wfC_Q l h⟩
theorem wfC_cons1 {c : Ce} {l : List Ce} (h : mayC c.r c.w c.a) (h1 : c.w = 1) (hl : wfC l) : wfC (c :: l) := by
  cases l with
  | nil => exact ⟨h, h1⟩
  | cons d l => exact ⟨h, .inl ⟨h1, hl⟩⟩
theorem wfC_app : ∀ (a b : List Ce), wfC a → wfC b → wfC (a ++ b)
  | [], b, _, hb => hb
  | [c], b, ha, hb => wfC_cons1 ha.1 ha.2 hb
  | c :: d :: l, b, ha, hb => by
    obtain ⟨h1, ⟨h2, h3⟩ | ⟨h2, h3, h4⟩⟩ := ha
    · exact wfC_cons1 h1 h2 (wfC_app (d :: l) b h3 hb)
    · exact ⟨h1, .inr ⟨h2, h3, wfC_app l b h4 hb⟩⟩
theorem wfC_cells {c : Ce} (h : lineC c) : wfC (cellsC c) := by
  unfold cellsC
  rcases h.w with e | e
  · rw [if_neg (by omega)]; exact ⟨h.1, e⟩
  · rw [if_pos e]; exact ⟨h.1, .inr ⟨e, rfl, trivial⟩⟩
theorem wfC_blanks (n : Nat) : wfC (blanks n) := by
  induction n with
  | zero => exact trivial
  | succ n ih =>
    rw [show blanks (n + 1) = blankC :: blanks n from rfl]
    exact wfC_cons1 (by decide) rfl ih
theorem wfC_pad : wfC [padC] := ⟨by decide, rfl⟩

/-- The rows of a line. -/
theorem lay_rows (w : Nat) (hw2 : 2 ≤ w) (hw : w ≤ 300) : ∀ (l cur : List Ce), lineG l → wfC cur → cur.length ≤ w → ∀ r ∈ lay w cur l, r.1.length = w ∧ rowG r.1
  | [], cur, _, hc, hl, r, hr => by
    simp only [lay, List.mem_singleton] at hr
    subst hr
    have e : (cur ++ blanks (w - cur.length)).length = w := by rw [List.length_append, blanks_len]; omega
    exact ⟨e, wfC_G (wfC_app _ _ hc (wfC_blanks _)) (by rw [e]; exact hw)⟩
  | c :: l, cur, hg, hc, hl, r, hr => by
    have hcc := hg c List.mem_cons_self
    have hgl : lineG l := fun x hx => hg x (List.mem_cons_of_mem _ hx)
    have hlen := cellsC_len' hcc
    have hcw := hcc.w
    unfold lay at hr
    split at hr
    · rename_i hgt
      rcases List.mem_cons.1 hr with rfl | hr
      · dsimp only
        split
        · rename_i hlt
          have e : (cur ++ [padC]).length = w := by rw [List.length_append]; show cur.length + 1 = w; omega
          exact ⟨e, wfC_G (wfC_app _ _ hc wfC_pad) (by rw [e]; exact hw)⟩
        · have e : cur.length = w := by omega
          exact ⟨e, wfC_G hc (by omega)⟩
      · exact lay_rows w hw2 hw l _ hgl (wfC_cells hcc) (by omega) r hr
    · exact lay_rows w hw2 hw l _ hgl (wfC_app _ _ hc (wfC_cells hcc)) (by rw [List.length_append]; omega) r hr
end Go.Am
