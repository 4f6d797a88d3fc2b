/- Parts of the proof: RLinP RLinS RLinT RLinQ. -/
import Derived.Test.YtmcimfmibpfnhaaGreatRRowD
import Derived.Test.YtmcimfmibpfnhaaGreatRRowP
set_option linter.all false
set_option linter.deprecated false

namespace Go.Am
variable {oc : Orc} [OrcI oc]
set_option maxRecDepth 8000
set_option maxHeartbeats 1000000
/-! Cells. -/
def isSig (c : Ce) : Bool := decide (c.w ≠ 0 ∧ c ≠ padC)
def sigL (l : List Ce) : List Ce := l.filter isSig
def lineC (c : Ce) : Prop := mayC c.r c.w c.a ∧ c.w ≠ 0 ∧ c ≠ padC
instance (c : Ce) : Decidable (lineC c) := inferInstanceAs (Decidable (_ ∧ _))
def lineG (l : List Ce) : Prop := ∀ c ∈ l, lineC c
instance (l : List Ce) : Decidable (lineG l) := inferInstanceAs (Decidable (∀ c ∈ l, lineC c))

/-- The cells that a sign takes. -/
def cellsC (c : Ce) : List Ce := if c.w = 2 then [c, ⟨0, 0, c.a⟩] else [c]
theorem lineC.w {c : Ce} (h : lineC c) : c.w = 1 ∨ c.w = 2 := by
  obtain ⟨⟨_, h1⟩, h2, h3⟩ := h
  rcases h1 with ⟨a, b, d⟩ | ⟨a, _⟩ | ⟨a, _⟩
  · exact absurd (Ce.eqv.2 ⟨a, b, d⟩) h3
  · exact absurd a h2
  · exact a
theorem cellsC_len {c : Ce} (h : lineC c) : ((cellsC c).length : Int) = c.w := by
  unfold cellsC
  rcases h.w with e | e
  · rw [if_neg (by omega), e]; rfl
  · rw [if_pos e, e]; rfl
theorem cellsC_len' {c : Ce} (h : lineC c) : (cellsC c).length = c.w.toNat := by have := cellsC_len h; omega
theorem isSig_line {c : Ce} (h : lineC c) : isSig c = true := decide_eq_true ⟨h.2.1, h.2.2⟩
theorem sigL_nil : sigL [] = [] := rfl
theorem sigL_app (a b : List Ce) : sigL (a ++ b) = sigL a ++ sigL b := List.filter_append ..
theorem sigL_cells {c : Ce} (h : lineC c) : sigL (cellsC c) = [c] := by
  unfold cellsC
  have h2 : isSig ⟨0, 0, c.a⟩ = false := decide_eq_false (fun h => h.1 rfl)
  split <;> simp [sigL, isSig_line h, h2]
theorem sigL_pad : sigL [padC] = [] := by decide
theorem sigL_line {l : List Ce} (h : rowG l) : lineG (sigL l) := by
  intro c hc
  obtain ⟨h1, h2⟩ := List.mem_filter.1 hc
  have h3 := of_decide_eq_true h2
  obtain ⟨i, hi, rfl⟩ := List.mem_iff_getElem.1 h1
  have := (h.2 i hi).1
  rw [List.getD_eq_getElem?_getD, List.getElem?_eq_getElem hi] at this
  exact ⟨this, h3.1, h3.2⟩
/-! Trimmed. -/
theorem usedN_app (l m : List Ce) (n : Nat) (h : n ≤ l.length) : usedN (l ++ m) n = usedN l n := by
  induction n with
  | zero => rfl
  | succ n ih =>
    have e : (l ++ m).getD n zeroC = l.getD n zeroC := by
      rw [List.getD_eq_getElem?_getD, List.getElem?_append_left (by omega), List.getD_eq_getElem?_getD]
    simp only [usedN, e, ih (by omega)]
theorem trimL_blank (l : List Ce) : trimL (l ++ [blankC]) = trimL l := by
  have e : (l ++ [blankC]).getD l.length zeroC = blankC := by simp [List.getD_eq_getElem?_getD]
  have h1 : usedN (l ++ [blankC]) (l ++ [blankC]).length = usedN l l.length := by
    rw [List.length_append]
    show usedN (l ++ [blankC]) (l.length + 1) = _
    simp only [usedN, e, if_true]
    exact usedN_app _ _ _ (Nat.le_refl _)
  have := usedN_le l l.length
  unfold trimL
  rw [h1, List.take_append_of_le_length (by omega)]
theorem trimL_last {l : List Ce} {c : Ce} (h : c ≠ blankC) : trimL (l ++ [c]) = l ++ [c] := by
  have e : (l ++ [c]).getD l.length zeroC = c := by simp [List.getD_eq_getElem?_getD]
  unfold trimL
  rw [List.length_append]
  show (l ++ [c]).take (usedN (l ++ [c]) (l.length + 1)) = _
  simp only [usedN, e, if_neg h]
  exact List.take_of_length_le (by simp)
theorem trimL_cases (l : List Ce) : (trimL l = [] ∧ ∃ n, l = blanks n) ∨ ∃ m c n, c ≠ blankC ∧ trimL l = m ++ [c] ∧ l = m ++ [c] ++ blanks n := by
  induction hn : l.length generalizing l with
  | zero => rw [List.length_eq_zero_iff] at hn; subst hn; exact .inl ⟨rfl, 0, rfl⟩
  | succ n ih =>
    obtain ⟨m, c, rfl⟩ : ∃ m c, l = m ++ [c] := by
      rcases List.eq_nil_or_concat l with h | ⟨m, c, h⟩
      · rw [h] at hn; simp at hn
      · exact ⟨m, c, by simpa using h⟩
    have hm : m.length = n := by simpa using hn
    by_cases hc : c = blankC
    · subst hc
      have hbl : ∀ k, blanks k ++ [blankC] = blanks (k + 1) := fun k => by rw [blanks, blanks, List.replicate_succ']
      rw [trimL_blank]
      rcases ih m hm with ⟨h1, k, rfl⟩ | ⟨m', c', k, h1, h2, h3⟩
      · exact .inl ⟨h1, k + 1, hbl k⟩
      · exact .inr ⟨m', c', k + 1, h1, h2, by rw [← hbl, ← List.append_assoc, ← h3]⟩
    · exact .inr ⟨m, c, 0, hc, trimL_last hc, by rw [show blanks 0 = [] from rfl, List.append_nil]⟩
theorem trimL_trim (l : List Ce) : trimL (trimL l) = trimL l := by
  rcases trimL_cases l with ⟨h, _⟩ | ⟨m, c, n, h1, h2, _⟩
  · rw [h]; rfl
  · rw [h2]; exact trimL_last h1
theorem trimL_line {l : List Ce} (h : lineG l) : lineG (trimL l) := fun c hc => h c (List.mem_of_mem_take hc)
/-! Rows joined. -/
def sndR (r : Rw) : Rw := if rowG r.1 then r else ([], false)
def sigR (r : Rw) : List Ce := sigL (sndR r).1
def joinG : List Ce → List Rw → List (List Ce)
  | _, [] => []
  | acc, r :: rs => if (sndR r).2 = true ∧ rs ≠ [] then joinG (acc ++ sigR r) rs else trimL (acc ++ sigR r) :: joinG [] rs
def joinL (rows : List Rw) : List (List Ce) := joinG [] rows
theorem joinG_nil (acc : List Ce) : joinG acc [] = [] := rfl
theorem joinG_wrap {acc : List Ce} {r : Rw} {rs : List Rw} (h : (sndR r).2 = true) (h2 : rs ≠ []) : joinG acc (r :: rs) = joinG (acc ++ sigR r) rs := if_pos ⟨h, h2⟩
theorem joinG_end {acc : List Ce} {r : Rw} {rs : List Rw} (h : ¬ ((sndR r).2 = true ∧ rs ≠ [])) : joinG acc (r :: rs) = trimL (acc ++ sigR r) :: joinG [] rs := if_neg h
theorem sigR_line (r : Rw) : lineG (sigR r) := by
  unfold sigR sndR
  split
  · rename_i h; exact sigL_line h
  · intro c hc; cases hc
theorem lineG.app {a b : List Ce} (h : lineG a) (h' : lineG b) : lineG (a ++ b) := fun c hc => (List.mem_append.1 hc).elim (h c) (h' c)
theorem joinG_line {acc : List Ce} {rs : List Rw} (h : lineG acc) : ∀ l ∈ joinG acc rs, lineG l ∧ trimL l = l := by
  induction rs generalizing acc with
  | nil => intro l hl; cases hl
  | cons r rs ih =>
    intro l hl
    by_cases hc : (sndR r).2 = true ∧ rs ≠ []
    · rw [joinG_wrap hc.1 hc.2] at hl
      exact ih (h.app (sigR_line r)) l hl
    · rw [joinG_end hc] at hl
      rcases List.mem_cons.1 hl with rfl | hl
      · exact ⟨trimL_line (h.app (sigR_line r)), trimL_trim _⟩
      · exact ih (fun c hc => by cases hc) l hl
theorem joinL_line (rs : List Rw) : ∀ l ∈ joinL rs, lineG l ∧ trimL l = l := joinG_line (fun c hc => by cases hc)
theorem joinG_app {acc : List Ce} {a b : List Rw} (ha : a ≠ []) (h : (sndR (a.getLast ha)).2 = false) : joinG acc (a ++ b) = joinG acc a ++ joinL b := by
  induction a generalizing acc with
  | nil => exact absurd rfl ha
  | cons r rs ih =>
    rw [List.cons_append]
    by_cases hr : rs = []
    · subst hr
      have h' : (sndR r).2 = false := h
      rw [joinG_end (fun z => by rw [h'] at z; cases z.1), joinG_end (fun z => z.2 rfl)]
      rfl
    · have h' : (sndR (rs.getLast hr)).2 = false := by rw [← List.getLast_cons hr]; exact h
      by_cases hc : (sndR r).2 = true
      · rw [joinG_wrap hc (by simp [hr]), joinG_wrap hc hr, ih hr h']
      · rw [joinG_end (fun z => hc z.1), joinG_end (fun z => hc z.1), ih hr h']; rfl
/-! Lines laid out. -/
def lay (w : Nat) : List Ce → List Ce → List Rw
  | cur, [] => [(cur ++ blanks (w - cur.length), false)]
  | cur, c :: l => if w < cur.length + c.w.toNat then ((if cur.length < w then cur ++ [padC] else cur), true) :: lay w (cellsC c) l else lay w (cur ++ cellsC c) l
def mayL (l : List Ce) (w : Int) : Prop := 2 ≤ w ∧ w ≤ 300 ∧ lineG l
instance (l : List Ce) (w : Int) : Decidable (mayL l w) := inferInstanceAs (Decidable (_ ∧ _))
def layL (l : List Ce) (w : Int) : List Rw := if mayL l w then lay w.toNat [] l else []
def allL (ls : List (List Ce)) (w : Int) : List Rw := ls.flatMap fun l => layL l w
theorem lay_ne (w : Nat) (cur l : List Ce) : lay w cur l ≠ [] := by
  induction l generalizing cur with
  | nil => exact List.cons_ne_nil _ _
  | cons c l ih =>
    unfold lay
    split
    · exact List.cons_ne_nil _ _
    · exact ih _

/-- Cells that are whole signs. -/
def wfC : List Ce → Prop
  | [] => True
  | [c] => mayC c.r c.w c.a ∧ c.w = 1
  | c :: d :: l => mayC c.r c.w c.a ∧ ((c.w = 1 ∧ wfC (d :: l)) ∨ (c.w = 2 ∧ d = ⟨0, 0, c.a⟩ ∧ wfC l))
def rowQ (l : List Ce) (i : Nat) : Prop := mayC (l.getD i zeroC).r (l.getD i zeroC).w (l.getD i zeroC).a ∧
  ((l.getD i zeroC).w = 0 → 0 < i ∧ (l.getD (i - 1) zeroC).w = 2 ∧ (l.getD (i - 1) zeroC).a = (l.getD i zeroC).a) ∧ ((l.getD i zeroC).w = 2 → i + 1 < l.length ∧ (l.getD (i + 1) zeroC).w = 0)
theorem rowQ_cons {c : Ce} {l : List Ce} {i : Nat} (h : rowQ l i) : rowQ (c :: l) (i + 1) := by
  obtain ⟨h1, h2, h3⟩ := h
  refine ⟨h1, fun e => ?_, fun e => ?_⟩
  · obtain ⟨a, b, d⟩ := h2 e
    obtain ⟨k, rfl⟩ : ∃ k, i = k + 1 := ⟨i - 1, by omega⟩
    exact ⟨by omega, b, d⟩
  · obtain ⟨a, b⟩ := h3 e
    exact ⟨by simp only [List.length_cons]; omega, b⟩
theorem wfC_Q : ∀ (l : List Ce), wfC l → ∀ i, i < l.length → rowQ l i
  | [], _, i, hi => absurd hi (Nat.not_lt_zero _)
  | [c], h, i, hi => by
    have : i = 0 := by simp at hi; exact hi
    subst this
    exact ⟨h.1, fun e => absurd (h.2.symm.trans e) (by decide), fun e => absurd (h.2.symm.trans e) (by decide)⟩
  | c :: d :: l, h, i, hi => by
    obtain ⟨h1, ⟨h2, h3⟩ | ⟨h2, h3, h4⟩⟩ := h
    · cases i with
      | zero => exact ⟨h1, fun e => absurd (h2.symm.trans e) (by decide), fun e => absurd (h2.symm.trans e) (by decide)⟩
      | succ i => exact rowQ_cons (wfC_Q (d :: l) h3 i (by simpa using hi))
    · subst h3
      cases i with
      | zero => exact ⟨h1, fun e => absurd (h2.symm.trans e) (by decide), fun _ => ⟨by simp, rfl⟩⟩
      | succ i =>
        cases i with
        | zero => exact ⟨⟨h1.1, .inr (.inl ⟨rfl, rfl⟩)⟩, fun _ => ⟨by decide, h2, rfl⟩, fun e => absurd e (by decide : ¬ (0 : Int) = 2)⟩
        | succ i => exact rowQ_cons (rowQ_cons (wfC_Q l h4 i (by simpa using hi)))
theorem wfC_G {l : List Ce} (h : wfC l) (hl : l.length ≤ 300) : rowG l := ⟨hl, wfC_Q l h⟩
theorem wfC_cons1 {c : Ce} {l : List Ce} (h : mayC c.r c.w c.a) (h1 : c.w = 1) (hl : wfC l) : wfC (c :: l) := by
  cases l with
  | nil => exact ⟨h, h1⟩
  | cons d l => exact ⟨h, .inl ⟨h1, hl⟩⟩
theorem wfC_app : ∀ (a b : List Ce), wfC a → wfC b → wfC (a ++ b)
  | [], b, _, hb => hb
  | [c], b, ha, hb => wfC_cons1 ha.1 ha.2 hb
  | c :: d :: l, b, ha, hb => by
    obtain ⟨h1, ⟨h2, h3⟩ | ⟨h2, h3, h4⟩⟩ := ha
    · exact wfC_cons1 h1 h2 (wfC_app (d :: l) b h3 hb)
    · exact ⟨h1, .inr ⟨h2, h3, wfC_app l b h4 hb⟩⟩
theorem wfC_cells {c : Ce} (h : lineC c) : wfC (cellsC c) := by
  unfold cellsC
  rcases h.w with e | e
  · rw [if_neg (by omega)]; exact ⟨h.1, e⟩
  · rw [if_pos e]; exact ⟨h.1, .inr ⟨e, rfl, trivial⟩⟩
theorem wfC_blanks (n : Nat) : wfC (blanks n) := by
  induction n with
  | zero => exact trivial
  | succ n ih =>
    rw [show blanks (n + 1) = blankC :: blanks n from rfl]
    exact wfC_cons1 (by decide) rfl ih
theorem wfC_pad : wfC [padC] := ⟨by decide, rfl⟩

/-- The rows of a line. -/
theorem lay_rows (w : Nat) (hw2 : 2 ≤ w) (hw : w ≤ 300) : ∀ (l cur : List Ce), lineG l → wfC cur → cur.length ≤ w → ∀ r ∈ lay w cur l, r.1.length = w ∧ rowG r.1
  | [], cur, _, hc, hl, r, hr => by
    simp only [lay, List.mem_singleton] at hr
    subst hr
    have e : (cur ++ blanks (w - cur.length)).length = w := by rw [List.length_append, blanks_len]; omega
    exact ⟨e, wfC_G (wfC_app _ _ hc (wfC_blanks _)) (by rw [e]; exact hw)⟩
  | c :: l, cur, hg, hc, hl, r, hr => by
    have hcc := hg c List.mem_cons_self
    have hgl : lineG l := fun x hx => hg x (List.mem_cons_of_mem _ hx)
    have hlen := cellsC_len' hcc
    have hcw := hcc.w
    unfold lay at hr
    split at hr
    · rename_i hgt
      rcases List.mem_cons.1 hr with rfl | hr
      · dsimp only
        split
        · rename_i hlt
          have e : (cur ++ [padC]).length = w := by rw [List.length_append]; show cur.length + 1 = w; omega
          exact ⟨e, wfC_G (wfC_app _ _ hc wfC_pad) (by rw [e]; exact hw)⟩
        · have e : cur.length = w := by omega
          exact ⟨e, wfC_G hc (by omega)⟩
      · exact lay_rows w hw2 hw l _ hgl (wfC_cells hcc) (by omega) r hr
    · exact lay_rows w hw2 hw l _ hgl (wfC_app _ _ hc (wfC_cells hcc)) (by rw [List.length_append]; omega) r hr
theorem sndR_ok {r : Rw} (h : rowG r.1) : sndR r = r := if_pos h
end Go.Am

namespace Go.Am
variable {oc : Orc} [OrcI oc]
set_option maxRecDepth 8000
set_option maxHeartbeats 1000000

/-- Of a row: its line, and how many of the line's cells stand ahead of it. -/
def ofF : Nat × Nat → List Rw → Nat × Nat
  | p, [] => p
  | p, r :: rs => ofF (if (sndR r).2 = true then (p.1, p.2 + (sigR r).length) else (p.1 + 1, 0)) rs
def ofN (rows : List Rw) (i : Nat) : Nat × Nat := ofF (0, 0) (rows.take i)
theorem ofF_app (p : Nat × Nat) (a b : List Rw) : ofF p (a ++ b) = ofF (ofF p a) b := by
  induction a generalizing p with
  | nil => rfl
  | cons r rs ih => exact ih _
theorem ofN_succ {rows : List Rw} {i : Nat} (h : i < rows.length) : ofN rows (i + 1) = (if (sndR (rows.getD i noRw)).2 = true then ((ofN rows i).1, (ofN rows i).2 + (sigR (rows.getD i noRw)).length) else ((ofN rows i).1 + 1, 0)) := by
  unfold ofN
  rw [List.take_add_one, List.getElem?_eq_getElem h, ofF_app, List.getD_eq_getElem?_getD, List.getElem?_eq_getElem h]
  rfl

/-- Rows that all go on. -/
theorem ofF_wrap {rows : List Rw} (h : ∀ r ∈ rows, (sndR r).2 = true) (p : Nat × Nat) : ofF p rows = (p.1, p.2 + (rows.flatMap sigR).length) := by
  induction rows generalizing p with
  | nil => rfl
  | cons r rs ih =>
    unfold ofF
    rw [if_pos (h r List.mem_cons_self), ih (fun x hx => h x (List.mem_cons_of_mem _ hx)), List.flatMap_cons, List.length_append]
    simp only [Nat.add_assoc]

/-- The first row of a row's line. -/
def firstN (rows : List Rw) : Nat → Nat
  | 0 => 0
  | i + 1 => if (sndR (rows.getD i noRw)).2 = true then firstN rows i else i + 1
theorem firstN_le (rows : List Rw) (i : Nat) : firstN rows i ≤ i := by
  induction i with
  | zero => exact Nat.le_refl 0
  | succ i ih => unfold firstN; split <;> omega
theorem firstN_wrap (rows : List Rw) (i j : Nat) (h1 : firstN rows i ≤ j) (h2 : j < i) : (sndR (rows.getD j noRw)).2 = true := by
  induction i with
  | zero => omega
  | succ i ih =>
    unfold firstN at h1
    split at h1
    · rename_i hw
      by_cases e : j = i
      · rw [e]; exact hw
      · exact ih h1 (by omega)
    · omega
theorem firstN_end (rows : List Rw) (i : Nat) (h : 0 < firstN rows i) : (sndR (rows.getD (firstN rows i - 1) noRw)).2 = false := by
  induction i with
  | zero => exact absurd h (Nat.lt_irrefl 0)
  | succ i ih =>
    unfold firstN at h ⊢
    split
    · rename_i hw; rw [if_pos hw] at h; exact ih h
    · rename_i hw; exact Bool.eq_false_iff.2 hw
theorem firstN_off (rows : List Rw) (i : Nat) (h : i ≤ rows.length) : (ofN rows i).2 = (((rows.take i).drop (firstN rows i)).flatMap sigR).length := by
  induction i with
  | zero => rfl
  | succ i ih =>
    rw [ofN_succ (by omega)]
    unfold firstN
    split
    · dsimp only
      rw [ih (by omega), List.take_add_one, List.getElem?_eq_getElem (by omega), List.drop_append_of_le_length (by have := firstN_le rows i; simp; omega), List.flatMap_append, List.length_append, List.getD_eq_getElem?_getD, List.getElem?_eq_getElem (by omega)]
      simp
    · rw [List.drop_eq_nil_of_le (by simp; omega)]; rfl
theorem joinL_len (rows : List Rw) : ∀ acc, rows ≠ [] → 0 < (joinG acc rows).length := by
  induction rows with
  | nil => intro _ h; exact absurd rfl h
  | cons r rs ih =>
    intro acc _
    by_cases hc : (sndR r).2 = true ∧ rs ≠ []
    · rw [joinG_wrap hc.1 hc.2]; exact ih _ hc.2
    · rw [joinG_end hc]; exact Nat.succ_pos _
/-- The lines up to a row that begins one. -/
theorem join_split (rows : List Rw) (k : Nat) (hk : k ≤ rows.length) (h : k = 0 ∨ (sndR (rows.getD (k - 1) noRw)).2 = false) : joinL rows = joinL (rows.take k) ++ joinL (rows.drop k) := by
  rcases Nat.eq_zero_or_pos k with rfl | hp
  · rfl
  · have h' := h.resolve_left (by omega)
    have hne : rows.take k ≠ [] := fun z => by
      have := congrArg List.length z
      rw [List.length_take, List.length_nil] at this; omega
    conv => lhs; rw [← List.take_append_drop k rows]
    refine joinG_app hne ?_
    have : (rows.take k).getLast hne = rows.getD (k - 1) noRw := by
      rw [List.getLast_eq_getElem, List.getElem_take, List.getD_eq_getElem?_getD, List.getElem?_eq_getElem (by omega)]
      simp [Nat.min_eq_left hk]
    rw [this]; exact h'
theorem ofF_len (p : Nat × Nat) (rows : List Rw) (acc : List Ce) : (ofF p rows).1 = p.1 + (joinG acc rows).length - (if rows ≠ [] ∧ (sndR (rows.getD (rows.length - 1) noRw)).2 = true then 1 else 0) := by
  induction rows generalizing p acc with
  | nil => simp [ofF, joinG_nil]
  | cons r rs ih =>
    by_cases hr : rs = []
    · subst hr
      rw [joinG_end (fun z => z.2 rfl)]
      unfold ofF
      by_cases hw : (sndR r).2 = true
      · simp [hw, ofF, joinG_nil]
      · simp [hw, ofF, joinG_nil]
    · have hl : 0 < rs.length := List.length_pos_iff.2 hr
      have e : (r :: rs).getD ((r :: rs).length - 1) noRw = rs.getD (rs.length - 1) noRw := by
        rw [List.length_cons, Nat.add_sub_cancel]
        obtain ⟨k, hk⟩ : ∃ k, rs.length = k + 1 := ⟨rs.length - 1, by omega⟩
        rw [hk]; rfl
      have hp := joinL_len rs
      unfold ofF
      rw [e]
      by_cases hw : (sndR r).2 = true
      · rw [joinG_wrap hw hr, if_pos hw, ih _ (acc ++ sigR r)]
        simp [hr]
      · have := hp [] hr
        rw [joinG_end (fun z => hw z.1), if_neg hw, ih _ []]
        simp only [hr, ne_eq, not_false_eq_true, true_and, reduceCtorEq, List.length_cons]
        split <;> omega
theorem ofN_len (rows : List Rw) (i : Nat) (h : i ≤ rows.length) : (ofN rows i).1 = (joinL (rows.take (firstN rows i))).length := by
  have hf := firstN_le rows i
  have e1 : rows.take i = rows.take (firstN rows i) ++ (rows.take i).drop (firstN rows i) := by
    conv => lhs; rw [← List.take_append_drop (firstN rows i) (rows.take i)]
    rw [List.take_take, Nat.min_eq_left hf]
  have hw : ∀ r ∈ (rows.take i).drop (firstN rows i), (sndR r).2 = true := fun r hr => by
    obtain ⟨j, hj, rfl⟩ := List.mem_iff_getElem.1 hr
    have hj2 : firstN rows i + j < i := by simp at hj; omega
    have := firstN_wrap rows i (firstN rows i + j) (by omega) hj2
    rw [List.getD_eq_getElem?_getD, List.getElem?_eq_getElem (by omega)] at this
    simpa using this
  unfold ofN
  conv => lhs; rw [e1]
  rw [ofF_app, ofF_wrap hw]
  dsimp only
  rw [ofF_len (0, 0) _ []]
  dsimp only
  rw [Nat.zero_add, if_neg, Nat.sub_zero]
  · rfl
  · rintro ⟨hne, hlast⟩
    have hp : 0 < firstN rows i := by
      rcases Nat.eq_zero_or_pos (firstN rows i) with h0 | h0
      · rw [h0] at hne; exact absurd rfl hne
      · exact h0
    have := firstN_end rows i hp
    have e2 : (rows.take (firstN rows i)).getD ((rows.take (firstN rows i)).length - 1) noRw = rows.getD (firstN rows i - 1) noRw := by
      rw [List.length_take, Nat.min_eq_left (by omega), List.getD_eq_getElem?_getD, List.getElem?_take, if_pos (by omega), List.getD_eq_getElem?_getD]
    rw [e2, this] at hlast
    cases hlast

/-- The first line is that of the rows that go on. -/
theorem join_head : ∀ (rs : List Rw) (m : Nat) (acc : List Ce), 0 < m → m ≤ rs.length → (∀ j, j + 1 < m → (sndR (rs.getD j noRw)).2 = true) → (m = rs.length ∨ (sndR (rs.getD (m - 1) noRw)).2 = false) → (joinG acc (rs.take m)).getD 0 [] = (joinG acc rs).getD 0 []
  | [], m, acc, h0, h1, _, _ => by simp at h1; omega
  | r :: rs, m, acc, h0, h1, hw, he => by
    obtain ⟨k, rfl⟩ : ∃ k, m = k + 1 := ⟨m - 1, by omega⟩
    rw [List.take_succ_cons]
    by_cases hk : k = 0
    · subst hk
      rw [List.take_zero, joinG_end (fun z => z.2 rfl)]
      rw [joinG_end]
      · rfl
      · rintro ⟨z1, z2⟩
        rcases he with he | he
        · exact z2 (List.length_eq_zero_iff.1 (by rw [List.length_cons] at he; omega))
        · have he' : (sndR r).2 = false := he
          rw [he'] at z1; cases z1
    · have hr : (sndR r).2 = true := hw 0 (by omega)
      have hl : k ≤ rs.length := by simpa using h1
      have hn1 : rs.take k ≠ [] := fun z => by
        have := congrArg List.length z
        rw [List.length_take, List.length_nil] at this; omega
      have hn2 : rs ≠ [] := fun z => by rw [z] at hl; simp at hl; omega
      rw [joinG_wrap hr hn1, joinG_wrap hr hn2]
      refine join_head rs k _ (by omega) hl (fun j hj => ?_) ?_
      · have := hw (j + 1) (by omega)
        simpa using this
      · rcases he with he | he
        · left; simpa using he
        · right
          obtain ⟨q, rfl⟩ : ∃ q, k = q + 1 := ⟨k - 1, by omega⟩
          simpa using he
theorem ofN_first (rows : List Rw) (i : Nat) (h : i ≤ rows.length) : joinL rows = joinL (rows.take (firstN rows i)) ++ joinL (rows.drop (firstN rows i)) := by
  have := firstN_le rows i
  refine join_split rows _ (by omega) ?_
  rcases Nat.eq_zero_or_pos (firstN rows i) with h0 | h0
  · exact .inl h0
  · exact .inr (firstN_end rows i h0)
theorem ofN_lt {rows : List Rw} {i : Nat} (h : i < rows.length) : (ofN rows i).1 < (joinL rows).length := by
  have hf := firstN_le rows i
  rw [ofN_first rows i (by omega), List.length_append, ofN_len rows i (by omega)]
  have : 0 < (joinL (rows.drop (firstN rows i))).length := joinL_len _ _ fun z => by
    have := congrArg List.length z
    simp at this; omega
  omega

/-- A row's line, out of its rows. -/
theorem line_of (rows : List Rw) (i e : Nat) (h : i < rows.length) (h1 : i < e) (h2 : e ≤ rows.length) (hw : ∀ j, i ≤ j → j + 1 < e → (sndR (rows.getD j noRw)).2 = true) (he : e = rows.length ∨ (sndR (rows.getD (e - 1) noRw)).2 = false) :
    (joinL ((rows.drop (firstN rows i)).take (e - firstN rows i))).getD 0 [] = (joinL rows).getD (ofN rows i).1 [] := by
  have hf := firstN_le rows i
  rw [ofN_first rows i (by omega), ofN_len rows i (by omega)]
  rw [show ∀ (a b : List (List Ce)), (a ++ b).getD a.length [] = b.getD 0 [] from fun a b => by rw [List.getD_eq_getElem?_getD, List.getElem?_append_right (Nat.le_refl _), Nat.sub_self, List.getD_eq_getElem?_getD]]
  have hd : ∀ j, (rows.drop (firstN rows i)).getD j noRw = rows.getD (firstN rows i + j) noRw := fun j => by
    rw [List.getD_eq_getElem?_getD, List.getElem?_drop, List.getD_eq_getElem?_getD]
  refine join_head _ _ [] (by omega) (by simp; omega) (fun j hj => ?_) ?_
  · rw [hd]
    by_cases hji : firstN rows i + j < i
    · exact firstN_wrap rows i _ (by omega) hji
    · exact hw _ (by omega) (by omega)
  · rcases he with he | he
    · left; simp; omega
    · right
      rw [hd, show firstN rows i + (e - firstN rows i - 1) = e - 1 by omega]; exact he
/-! Spots. -/
def colOf (l : List Ce) (pc : Int) : Nat := if (min (max pc 0) l.length).toNat < l.length ∧ (l.getD (min (max pc 0) l.length).toNat zeroC).w = 0 then (min (max pc 0) l.length).toNat - 1 else (min (max pc 0) l.length).toNat
def offL (rows : List Rw) (i : Nat) (pc : Int) : Nat := (ofN rows i).2 + (sigL ((sndR (rows.getD i noRw)).1.take (colOf (sndR (rows.getD i noRw)).1 pc))).length
def spotL (rows : List Rw) (pr pc : Int) : Nat × Nat × Nat :=
  if 0 ≤ pr ∧ pr < rows.length then
    (if ((joinL rows).getD (ofN rows pr.toNat).1 []).length < offL rows pr.toNat pc then ((ofN rows pr.toNat).1, ((joinL rows).getD (ofN rows pr.toNat).1 []).length, offL rows pr.toNat pc - ((joinL rows).getD (ofN rows pr.toNat).1 []).length)
    else ((ofN rows pr.toNat).1, offL rows pr.toNat pc, 0))
  else (0, 0, 0)
/-! Places. -/
def posA (w : Nat) : Nat → Nat → List Ce → Nat → Nat × Nat
  | r, col, [], _ => (r, col)
  | r, col, c :: _, 0 => if w < col + c.w.toNat then (r + 1, 0) else (r, col)
  | r, col, c :: l, k + 1 => if w < col + c.w.toNat then posA w (r + 1) c.w.toNat l k else posA w r (col + c.w.toNat) l k
theorem posA_shift (w : Nat) : ∀ (l : List Ce) (r col k : Nat), posA w r col l k = (r + (posA w 0 col l k).1, (posA w 0 col l k).2)
  | [], r, col, k => by cases k <;> rfl
  | c :: l, r, col, 0 => by unfold posA; split <;> rfl
  | c :: l, r, col, k + 1 => by
    unfold posA
    split
    · rw [posA_shift w l (r + 1), posA_shift w l (0 + 1)]
      simp only [Nat.add_assoc, Nat.zero_add]
    · exact posA_shift w l r _ k
def placeL (ls : List (List Ce)) (w line off past : Int) : Nat × Nat :=
  if 0 ≤ line ∧ line < ls.length ∧ 0 ≤ off ∧ off ≤ (ls.getD line.toNat []).length ∧ 0 ≤ past ∧ mayL (ls.getD line.toNat []) w then
    ((allL (ls.take line.toNat) w).length + (posA w.toNat 0 0 (ls.getD line.toNat []) off.toNat).1,
     if off = (ls.getD line.toNat []).length ∧ 0 < past then (min ((posA w.toNat 0 0 (ls.getD line.toNat []) off.toNat).2 + min past w) (w - 1)).toNat else (posA w.toNat 0 0 (ls.getD line.toNat []) off.toNat).2)
  else (0, 0)
theorem lay_pre (w : Nat) : ∀ (l cur : List Ce), ∃ t b rest, lay w cur l = (cur ++ t, b) :: rest
  | [], cur => ⟨_, _, _, rfl⟩
  | c :: l, cur => by
    unfold lay
    split
    · split
      · exact ⟨_, _, _, rfl⟩
      · exact ⟨[], _, _, by rw [List.append_nil]⟩
    · obtain ⟨t, b, rest, h⟩ := lay_pre w l (cur ++ cellsC c)
      exact ⟨cellsC c ++ t, b, rest, by rw [h, List.append_assoc]⟩
theorem cellsC_head (c : Ce) : ∃ t, cellsC c = c :: t := by unfold cellsC; split <;> exact ⟨_, rfl⟩

/-- Where a cell of a line stands. -/
theorem lay_pos (w : Nat) (hw2 : 2 ≤ w) (hw : w ≤ 300) : ∀ (l cur : List Ce) (k : Nat), lineG l → wfC cur → cur.length ≤ w → k < l.length →
    ∃ row, (lay w cur l)[(posA w 0 cur.length l k).1]? = some row ∧ row.1.getD (posA w 0 cur.length l k).2 zeroC = l.getD k zeroC ∧ (posA w 0 cur.length l k).2 < w ∧
      ((lay w cur l).take (posA w 0 cur.length l k).1).flatMap sigR ++ sigL (row.1.take (posA w 0 cur.length l k).2) = sigL cur ++ l.take k
  | [], cur, k, _, _, _, hk => absurd hk (Nat.not_lt_zero _)
  | c :: l, cur, k, hg, hc, hl, hk => by
    have hcc := hg c List.mem_cons_self
    have hgl : lineG l := fun x hx => hg x (List.mem_cons_of_mem _ hx)
    have hlen := cellsC_len' hcc
    have hcw := hcc.w
    obtain ⟨ct, hct⟩ := cellsC_head c
    have first : ∀ row : List Ce, rowG row → sigL row = sigL cur → ∀ (rest : List Ce) (k' : Nat), sigR (row, true) = sigL cur := fun row hG hs _ _ => by rw [sigR, sndR_ok hG]; exact hs
    unfold lay
    by_cases hgt : w < cur.length + c.w.toNat
    · rw [if_pos hgt]
      obtain ⟨row0, hrow0, hs0⟩ : ∃ row0 : List Ce, (if cur.length < w then cur ++ [padC] else cur) = row0 ∧ sigR (row0, true) = sigL cur := by
        split
        · rename_i hlt
          have e : (cur ++ [padC]).length = w := by rw [List.length_append]; show cur.length + 1 = w; omega
          exact ⟨_, rfl, first _ (wfC_G (wfC_app _ _ hc wfC_pad) (by rw [e]; exact hw)) (by rw [sigL_app, sigL_pad, List.append_nil]) [] 0⟩
        · exact ⟨_, rfl, first _ (wfC_G hc (by omega)) rfl [] 0⟩
      rw [hrow0]
      cases k with
      | zero =>
        obtain ⟨t, b, rest, hpre⟩ := lay_pre w l (cellsC c)
        have e : posA w 0 cur.length (c :: l) 0 = (1, 0) := by unfold posA; rw [if_pos hgt]
        rw [e, hpre, hct]
        refine ⟨_, rfl, rfl, by omega, ?_⟩
        simp [hs0, sigL_nil]
      | succ k =>
        have e : posA w 0 cur.length (c :: l) (k + 1) = (1 + (posA w 0 (cellsC c).length l k).1, (posA w 0 (cellsC c).length l k).2) := by
          have e0 : posA w 0 cur.length (c :: l) (k + 1) = if w < cur.length + c.w.toNat then posA w (0 + 1) c.w.toNat l k else posA w 0 (cur.length + c.w.toNat) l k := rfl
          rw [e0, if_pos hgt, posA_shift, hlen, Nat.zero_add]
        obtain ⟨row, h1, h2, h3, h4⟩ := lay_pos w hw2 hw l (cellsC c) k hgl (wfC_cells hcc) (by omega) (by simpa using hk)
        rw [e]
        refine ⟨row, ?_, by simpa using h2, h3, ?_⟩
        · rw [Nat.add_comm]; simpa using h1
        · dsimp only
          rw [Nat.add_comm, List.take_succ_cons, List.flatMap_cons, List.append_assoc, h4, hs0, sigL_cells hcc]
          simp
    · rw [if_neg hgt]
      have hl2 : (cur ++ cellsC c).length = cur.length + c.w.toNat := by rw [List.length_append, hlen]
      cases k with
      | zero =>
        have e : posA w 0 cur.length (c :: l) 0 = (0, cur.length) := by unfold posA; rw [if_neg hgt]
        obtain ⟨t, b, rest, hpre⟩ := lay_pre w l (cur ++ cellsC c)
        rw [e, hpre, hct]
        refine ⟨_, rfl, ?_, by omega, ?_⟩
        · simp [List.getD_eq_getElem?_getD]
        · simp
      | succ k =>
        have e : posA w 0 cur.length (c :: l) (k + 1) = posA w 0 (cur ++ cellsC c).length l k := by
          conv => lhs; unfold posA
          rw [if_neg hgt, hl2]
        obtain ⟨row, h1, h2, h3, h4⟩ := lay_pos w hw2 hw l (cur ++ cellsC c) k hgl (wfC_app _ _ hc (wfC_cells hcc)) (by omega) (by simpa using hk)
        rw [e]
        refine ⟨row, h1, by simpa using h2, h3, ?_⟩
        rw [h4, sigL_app, sigL_cells hcc]
        simp
/-- Where a line ends. -/
theorem lay_end (w : Nat) (hw2 : 2 ≤ w) : ∀ (l cur : List Ce), lineG l → cur.length ≤ w → (posA w 0 cur.length l l.length).1 + 1 = (lay w cur l).length ∧ (posA w 0 cur.length l l.length).2 ≤ w
  | [], cur, _, hl => ⟨rfl, hl⟩
  | c :: l, cur, hg, hl => by
    have hcc := hg c List.mem_cons_self
    have hgl : lineG l := fun x hx => hg x (List.mem_cons_of_mem _ hx)
    have hlen := cellsC_len' hcc
    have hcw := hcc.w
    rw [List.length_cons]
    unfold lay posA
    split
    · rw [posA_shift]
      have := lay_end w hw2 l (cellsC c) hgl (by omega)
      rw [hlen] at this
      refine ⟨?_, this.2⟩
      rw [List.length_cons]; dsimp only; omega
    · have := lay_end w hw2 l (cur ++ cellsC c) hgl (by rw [List.length_append]; omega)
      rw [List.length_append, hlen] at this
      exact this

theorem allL_app (a b : List (List Ce)) (w : Int) : allL (a ++ b) w = allL a w ++ allL b w := List.flatMap_append
theorem allL_cons (l : List Ce) (ls : List (List Ce)) (w : Int) : allL (l :: ls) w = layL l w ++ allL ls w := rfl
theorem allL_at {ls : List (List Ce)} {w : Int} {i : Nat} (hi : i < ls.length) : allL ls w = allL (ls.take i) w ++ (layL (ls.getD i []) w ++ allL (ls.drop (i + 1)) w) := by
  rw [← allL_cons, ← allL_app]
  congr 1
  rw [List.getD_eq_getElem?_getD, List.getElem?_eq_getElem hi]
  have := List.drop_eq_getElem_cons hi
  conv => lhs; rw [← List.take_append_drop i ls, this]
  rfl
/-! Rows joined, as the document says. -/
def rawF : List (List Ce) × Bool → List Rw → List (List Ce) × Bool
  | p, [] => p
  | p, r :: rs => rawF ((if p.2 = true then p.1.dropLast ++ [p.1.getLastD [] ++ sigR r] else p.1 ++ [sigR r]), (sndR r).2) rs
theorem rawF_app (p : List (List Ce) × Bool) (a b : List Rw) : rawF p (a ++ b) = rawF (rawF p a) b := by
  induction a generalizing p with
  | nil => rfl
  | cons r rs ih => exact ih _
theorem rawF_join (rows : List Rw) : (∀ out, ((rawF (out, false) rows).1).map trimL = out.map trimL ++ joinL rows) ∧ ∀ out acc, ((rawF (out ++ [acc], true) rows).1).map trimL = out.map trimL ++ (if rows = [] then [trimL acc] else joinG acc rows) := by
  induction rows with
  | nil =>
    refine ⟨fun out => ?_, fun out acc => ?_⟩
    · show out.map trimL = out.map trimL ++ []
      rw [List.append_nil]
    · show (out ++ [acc]).map trimL = _
      rw [List.map_append]; rfl
  | cons r rs ih =>
    obtain ⟨ih1, ih2⟩ := ih
    have step : ∀ (out : List (List Ce)) (l : List Ce), ((rawF (out ++ [l], (sndR r).2) rs).1).map trimL = out.map trimL ++ (if (sndR r).2 = true ∧ rs ≠ [] then joinG l rs else trimL l :: joinL rs) := fun out l => by
      cases hw : (sndR r).2 with
      | false =>
        rw [ih1, List.map_append, List.append_assoc, if_neg (fun z => by cases z.1)]; rfl
      | true =>
        rw [ih2]
        by_cases hr : rs = []
        · subst hr; rw [if_pos rfl, if_neg (fun z => z.2 rfl)]; rfl
        · rw [if_neg hr, if_pos ⟨rfl, hr⟩]
    refine ⟨fun out => ?_, fun out acc => ?_⟩
    · show ((rawF (out ++ [sigR r], (sndR r).2) rs).1).map trimL = _
      rw [step]
      rfl
    · show ((rawF ((out ++ [acc]).dropLast ++ [(out ++ [acc]).getLastD [] ++ sigR r], (sndR r).2) rs).1).map trimL = _
      rw [List.dropLast_concat, List.getLastD_concat, step, if_neg (List.cons_ne_nil _ _)]
      rfl
theorem raw_join (rows : List Rw) : ((rawF ([], false) rows).1).map trimL = joinL rows := (rawF_join rows).1 []
theorem raw_of (rows : List Rw) (i : Nat) (h : i ≤ rows.length) : (ofN rows i).1 + (if (rawF ([], false) (rows.take i)).2 = true then 1 else 0) = (rawF ([], false) (rows.take i)).1.length := by
  induction i with
  | zero => rfl
  | succ i ih =>
    have hlt : i < rows.length := by omega
    have ih' := ih (by omega)
    have e : rows.take (i + 1) = rows.take i ++ [rows.getD i noRw] := by
      rw [List.take_add_one, List.getElem?_eq_getElem hlt, List.getD_eq_getElem?_getD, List.getElem?_eq_getElem hlt]; rfl
    rw [ofN_succ hlt, e, rawF_app]
    generalize rawF ([], false) (rows.take i) = p at *
    obtain ⟨out, op⟩ := p
    dsimp only at ih'
    show _ = (if op = true then out.dropLast ++ [out.getLastD [] ++ sigR (rows.getD i noRw)] else out ++ [sigR (rows.getD i noRw)]).length
    have e2 : (rawF (out, op) [rows.getD i noRw]).2 = (sndR (rows.getD i noRw)).2 := rfl
    rw [e2]
    cases op with
    | true =>
      rw [if_pos rfl] at ih'
      rw [if_pos rfl, List.length_append, List.length_dropLast]
      by_cases hw : (sndR (rows.getD i noRw)).2 = true
      · rw [if_pos hw, if_pos hw]; show (ofN rows i).1 + 1 = out.length - 1 + 1; omega
      · rw [if_neg hw, if_neg hw]; show (ofN rows i).1 + 1 + 0 = out.length - 1 + 1; omega
    | false =>
      rw [if_neg (by decide)] at ih'
      rw [if_neg (Bool.false_ne_true), List.length_append]
      by_cases hw : (sndR (rows.getD i noRw)).2 = true
      · rw [if_pos hw, if_pos hw]; show (ofN rows i).1 + 1 = out.length + 1; omega
      · rw [if_neg hw, if_neg hw]; show (ofN rows i).1 + 1 + 0 = out.length + 1; omega
end Go.Am

namespace Go.Am
variable {oc : Orc} [OrcI oc]
set_option maxRecDepth 8000
set_option maxHeartbeats 1000000
theorem place_at (w : Int) (hw2 : 2 ≤ w) (hw : w ≤ 300) (ls : List (List Ce)) (h : ∀ l ∈ ls, lineG l) (i k : Nat) (hi : i < ls.length) (hk : k < (ls.getD i []).length) :
    placeL ls w i k 0 = ((allL (ls.take i) w).length + (posA w.toNat 0 0 (ls.getD i []) k).1, (posA w.toNat 0 0 (ls.getD i []) k).2) ∧ (posA w.toNat 0 0 (ls.getD i []) k).1 < (layL (ls.getD i []) w).length ∧
    ∃ row, (allL ls w)[(placeL ls w i k 0).1]? = some row ∧ row.1.length = w.toNat ∧ (placeL ls w i k 0).2 < w.toNat ∧ row.1.getD (placeL ls w i k 0).2 zeroC = (ls.getD i []).getD k zeroC := by
  have hmem : ls.getD i [] ∈ ls := by rw [List.getD_eq_getElem?_getD, List.getElem?_eq_getElem hi]; exact List.getElem_mem hi
  have hg := h _ hmem
  have hpl : placeL ls w i k 0 = ((allL (ls.take i) w).length + (posA w.toNat 0 0 (ls.getD i []) k).1, (posA w.toNat 0 0 (ls.getD i []) k).2) := by
    unfold placeL
    rw [if_pos ⟨by omega, by omega, by omega, by simp only [Int.toNat_natCast]; omega, by omega, hw2, hw, by simpa using hg⟩]
    simp only [Int.toNat_natCast]
    rw [if_neg (fun z => by omega)]
  have hall := allL_at (w := w) hi
  have hlay : layL (ls.getD i []) w = lay w.toNat [] (ls.getD i []) := if_pos ⟨hw2, hw, hg⟩
  rw [hlay] at hall ⊢
  obtain ⟨row, h1, h2, h3, h4⟩ := lay_pos w.toNat (by omega) (by omega) (ls.getD i []) [] k hg trivial (Nat.zero_le _) hk
  rw [List.length_nil] at h1 h2 h3 h4
  have hrows := lay_rows w.toNat (by omega) (by omega) (ls.getD i []) [] hg trivial (Nat.zero_le _)
  have hq1 : (posA w.toNat 0 0 (ls.getD i []) k).1 < (lay w.toNat [] (ls.getD i [])).length := by
    rcases Nat.lt_or_ge (posA w.toNat 0 0 (ls.getD i []) k).1 (lay w.toNat [] (ls.getD i [])).length with hh | hh
    · exact hh
    · rw [List.getElem?_eq_none hh] at h1; cases h1
  refine ⟨hpl, hq1, row, ?_, (hrows row (List.mem_of_getElem? h1)).1, ?_, ?_⟩
  · rw [hpl, hall]
    dsimp only
    rw [List.getElem?_append_right (by omega), Nat.add_sub_cancel_left, List.getElem?_append_left hq1]; exact h1
  · rw [hpl]; exact h3
  · rw [hpl]; exact h2
theorem place_end (w : Int) (hw2 : 2 ≤ w) (hw : w ≤ 300) (ls : List (List Ce)) (h : ∀ l ∈ ls, lineG l) (i : Nat) (hi : i < ls.length) (past : Int) (hp : 0 ≤ past) :
    (placeL ls w i (ls.getD i []).length past).1 + 1 = (allL (ls.take (i + 1)) w).length ∧ (placeL ls w i (ls.getD i []).length 0).2 ≤ w.toNat ∧ (placeL ls w i (ls.getD i []).length past).2 ≤ w.toNat ∧
    (placeL ls w i (ls.getD i []).length past).2 = if 0 < past then (min (((placeL ls w i (ls.getD i []).length 0).2 : Int) + past) (w - 1)).toNat else (placeL ls w i (ls.getD i []).length 0).2 := by
  have hmem : ls.getD i [] ∈ ls := by rw [List.getD_eq_getElem?_getD, List.getElem?_eq_getElem hi]; exact List.getElem_mem hi
  have hg := h _ hmem
  have hpl : ∀ past : Int, 0 ≤ past → placeL ls w i (ls.getD i []).length past = ((allL (ls.take i) w).length + (posA w.toNat 0 0 (ls.getD i []) (ls.getD i []).length).1, if 0 < past then (min (((posA w.toNat 0 0 (ls.getD i []) (ls.getD i []).length).2 : Int) + min past w) (w - 1)).toNat else (posA w.toNat 0 0 (ls.getD i []) (ls.getD i []).length).2) := fun past hp => by
    unfold placeL
    rw [if_pos ⟨by omega, by omega, by omega, by simp only [Int.toNat_natCast]; omega, hp, hw2, hw, by simpa using hg⟩]
    simp only [Int.toNat_natCast, true_and]
  have h1 := lay_end w.toNat (by omega) (ls.getD i []) [] hg (Nat.zero_le _)
  rw [List.length_nil] at h1
  have hlay : layL (ls.getD i []) w = lay w.toNat [] (ls.getD i []) := if_pos ⟨hw2, hw, hg⟩
  have htk : allL (ls.take (i + 1)) w = allL (ls.take i) w ++ layL (ls.getD i []) w := by
    rw [List.take_add_one, List.getElem?_eq_getElem hi, allL_app, List.getD_eq_getElem?_getD, List.getElem?_eq_getElem hi]
    show _ ++ (layL _ w ++ allL [] w) = _
    rw [show allL [] w = [] from rfl, List.append_nil]; rfl
  rw [hpl past hp, hpl 0 (Int.le_refl 0), htk, List.length_append, hlay]
  dsimp only
  rw [if_neg (Int.lt_irrefl 0)]
  refine ⟨by omega, h1.2, ?_, ?_⟩
  · split
    · omega
    · exact h1.2
  · split
    · congr 1; omega
    · rfl
/-! How many rows. -/
/-- Marks. -/
theorem mark_at (w : Int) (hw2 : 2 ≤ w) (hw : w ≤ 300) (rows : List Rw) (pr pc : Int) (h0 : 0 ≤ pr) (h1 : pr < rows.length) :
    ∃ i k p : Nat, spotL rows pr pc = (i, k, p) ∧ i < (joinL rows).length ∧ k ≤ ((joinL rows).getD i []).length ∧ (k < ((joinL rows).getD i []).length → p = 0) := by
  have hi : pr.toNat < rows.length := by omega
  have h := ofN_lt hi
  unfold spotL
  rw [if_pos ⟨h0, h1⟩]
  split
  · exact ⟨_, _, _, rfl, h, Nat.le_refl _, fun z => absurd z (Nat.lt_irrefl _)⟩
  · exact ⟨_, _, _, rfl, h, by omega, fun _ => rfl⟩
end Go.Am

namespace Go.Am
variable {oc : Orc} [OrcI oc]
open Go.Proofs
set_option maxRecDepth 8000
set_option maxHeartbeats 4000000
end Go.Am
