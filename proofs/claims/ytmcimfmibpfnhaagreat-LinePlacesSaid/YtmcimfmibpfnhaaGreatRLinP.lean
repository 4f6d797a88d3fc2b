
/- Lines, plainly: rows joined, lines laid out, places. -/
import Derived.Test.YtmcimfmibpfnhaaGreatRRowD
import Derived.Test.YtmcimfmibpfnhaaGreatRRowP
set_option linter.all false
set_option linter.deprecated false
namespace Go.Am
variable {oc : Orc} [OrcI oc]
set_option maxRecDepth 8000
set_option maxHeartbeats 1000000
/-! Cells. -/
def isSig (c : Ce) : Bool := decide (c.w ≠ 0 ∧ c ≠ padC)
def sigL (l : List Ce) : List Ce := l.filter isSig
def lineC (c : Ce) : Prop := mayC c.r c.w c.a ∧ c.w ≠ 0 ∧ c ≠ padC
instance (c : Ce) : Decidable (lineC c) := inferInstanceAs (Decidable (_ ∧ _))
def lineG (l : List Ce) : Prop := ∀ c ∈ l, lineC c
instance (l : List Ce) : Decidable (lineG l) := inferInstanceAs (Decidable (∀ c ∈ l, lineC c))

/-- The cells that a sign takes. -/
def cellsC (c : Ce) : List Ce := if c.w = 2 then [c, ⟨0, 0, c.a⟩] else [c]
theorem lineC.w {c : Ce} (h : lineC c) : c.w = 1 ∨ c.w = 2 := by
  obtain ⟨⟨_, h1⟩, h2, h3⟩ := h
  rcases h1 with ⟨a, b, d⟩ | ⟨a, _⟩ | ⟨a, _⟩
  · exact absurd (Ce.eqv.2 ⟨a, b, d⟩) h3
  · exact absurd a h2
  · exact a
theorem cellsC_len {c : Ce} (h : lineC c) : ((cellsC c).length : Int) = c.w := by
  unfold cellsC
  rcases h.w with e | e
  · rw [if_neg (by omega), e]; rfl
  · rw [if_pos e, e]; rfl
theorem cellsC_len' {c : Ce} (h : lineC c) : (cellsC c).length = c.w.toNat := by have := cellsC_len h; omega
theorem isSig_line {c : Ce} (h : lineC c) : isSig c = true := decide_eq_true ⟨h.2.1, h.2.2⟩
theorem sigL_nil : sigL [] = [] := rfl
theorem sigL_app (a b : List Ce) : sigL (a ++ b) = sigL a ++ sigL b := List.filter_append ..
theorem sigL_cells {c : Ce} (h : lineC c) : sigL (cellsC c) = [c] := by
  unfold cellsC
  have h2 : isSig ⟨0, 0, c.a⟩ = false := decide_eq_false (fun h => h.1 rfl)
  split <;> simp [sigL, isSig_line h, h2]
theorem sigL_pad : sigL [padC] = [] := by decide
theorem isSig_blank : isSig blankC = true := by decide
theorem sigL_blanks (n : Nat) : sigL (blanks n) = blanks n := by
  unfold sigL blanks
  rw [List.filter_eq_self]
  intro c hc
  rw [List.eq_of_mem_replicate hc]
  exact isSig_blank
/-! Trimmed. -/
theorem usedN_app (l m : List Ce) (n : Nat) (h : n ≤ l.length) : usedN (l ++ m) n = usedN l n := by
  induction n with
  | zero => rfl
  | succ n ih =>
    have e : (l ++ m).getD n zeroC = l.getD n zeroC := by
      rw [List.getD_eq_getElem?_getD, List.getElem?_append_left (by omega), List.getD_eq_getElem?_getD]
    simp only [usedN, e, ih (by omega)]
theorem trimL_blank (l : List Ce) : trimL (l ++ [blankC]) = trimL l := by
  have e : (l ++ [blankC]).getD l.length zeroC = blankC := by simp [List.getD_eq_getElem?_getD]
  have h1 : usedN (l ++ [blankC]) (l ++ [blankC]).length = usedN l l.length := by
    rw [List.length_append]
    show usedN (l ++ [blankC]) (l.length + 1) = _
    simp only [usedN, e, if_true]
    exact usedN_app _ _ _ (Nat.le_refl _)
  have := usedN_le l l.length
  unfold trimL
  rw [h1, List.take_append_of_le_length (by omega)]
theorem trimL_blanks (l : List Ce) (n : Nat) : trimL (l ++ blanks n) = trimL l := by
  induction n with
  | zero => rw [show blanks 0 = [] from rfl, List.append_nil]
  | succ n ih =>
    rw [show blanks (n + 1) = blanks n ++ [blankC] by rw [blanks, List.replicate_succ']; rfl, ← List.append_assoc, trimL_blank, ih]
/-! Rows joined. -/
def sndR (r : Rw) : Rw := if rowG r.1 then r else ([], false)
def sigR (r : Rw) : List Ce := sigL (sndR r).1
def joinG : List Ce → List Rw → List (List Ce)
  | _, [] => []
  | acc, r :: rs => if (sndR r).2 = true ∧ rs ≠ [] then joinG (acc ++ sigR r) rs else trimL (acc ++ sigR r) :: joinG [] rs
def joinL (rows : List Rw) : List (List Ce) := joinG [] rows
theorem joinG_nil (acc : List Ce) : joinG acc [] = [] := rfl
theorem joinG_wrap {acc : List Ce} {r : Rw} {rs : List Rw} (h : (sndR r).2 = true) (h2 : rs ≠ []) : joinG acc (r :: rs) = joinG (acc ++ sigR r) rs := if_pos ⟨h, h2⟩
theorem joinG_end {acc : List Ce} {r : Rw} {rs : List Rw} (h : ¬ ((sndR r).2 = true ∧ rs ≠ [])) : joinG acc (r :: rs) = trimL (acc ++ sigR r) :: joinG [] rs := if_neg h
theorem lineG.app {a b : List Ce} (h : lineG a) (h' : lineG b) : lineG (a ++ b) := fun c hc => (List.mem_append.1 hc).elim (h c) (h' c)
theorem joinG_app {acc : List Ce} {a b : List Rw} (ha : a ≠ []) (h : (sndR (a.getLast ha)).2 = false) : joinG acc (a ++ b) = joinG acc a ++ joinL b := by
  induction a generalizing acc with
  | nil => exact absurd rfl ha
  | cons r rs ih =>
    rw [List.cons_append]
    by_cases hr : rs = []
    · subst hr
      have h' : (sndR r).2 = false := h
      rw [joinG_end (fun z => by rw [h'] at z; cases z.1), joinG_end (fun z => z.2 rfl)]
      rfl
    · have h' : (sndR (rs.getLast hr)).2 = false := by rw [← List.getLast_cons hr]; exact h
      by_cases hc : (sndR r).2 = true
      · rw [joinG_wrap hc (by simp [hr]), joinG_wrap hc hr, ih hr h']
      · rw [joinG_end (fun z => hc z.1), joinG_end (fun z => hc z.1), ih hr h']; rfl
/-! Lines laid out. -/
def lay (w : Nat) : List Ce → List Ce → List Rw
  | cur, [] => [(cur ++ blanks (w - cur.length), false)]
  | cur, c :: l => if w < cur.length + c.w.toNat then ((if cur.length < w then cur ++ [padC] else cur), true) :: lay w (cellsC c) l else lay w (cur ++ cellsC c) l
def mayL (l : List Ce) (w : Int) : Prop := 2 ≤ w ∧ w ≤ 300 ∧ lineG l
instance (l : List Ce) (w : Int) : Decidable (mayL l w) := inferInstanceAs (Decidable (_ ∧ _))
def layL (l : List Ce) (w : Int) : List Rw := if mayL l w then lay w.toNat [] l else []
def allL (ls : List (List Ce)) (w : Int) : List Rw := ls.flatMap fun l => layL l w
theorem lay_ne (w : Nat) (cur l : List Ce) : lay w cur l ≠ [] := by
  induction l generalizing cur with
  | nil => exact List.cons_ne_nil _ _
  | cons c l ih =>
    unfold lay
    split
    · exact List.cons_ne_nil _ _
    · exact ih _

/-- Cells that are whole signs. -/
def wfC : List Ce → Prop
  | [] => True
  | [c] => mayC c.r c.w c.a ∧ c.w = 1
  | c :: d :: l => mayC c.r c.w c.a ∧ ((c.w = 1 ∧ wfC (d :: l)) ∨ (c.w = 2 ∧ d = ⟨0, 0, c.a⟩ ∧ wfC l))
def rowQ (l : List Ce) (i : Nat) : Prop := mayC (l.getD i zeroC).r (l.getD i zeroC).w (l.getD i zeroC).a ∧
  ((l.getD i zeroC).w = 0 → 0 < i ∧ (l.getD (i - 1) zeroC).w = 2 ∧ (l.getD (i - 1) zeroC).a = (l.getD i zeroC).a) ∧ ((l.getD i zeroC).w = 2 → i + 1 < l.length ∧ (l.getD (i + 1) zeroC).w = 0)
theorem rowQ_cons {c : Ce} {l : List Ce} {i : Nat} (h : rowQ l i) : rowQ (c :: l) (i + 1) := by
  obtain ⟨h1, h2, h3⟩ := h
  refine ⟨h1, fun e => ?_, fun e => ?_⟩
  · obtain ⟨a, b, d⟩ := h2 e
    obtain ⟨k, rfl⟩ : ∃ k, i = k + 1 := ⟨i - 1, by omega⟩
    exact ⟨by omega, b, d⟩
  · obtain ⟨a, b⟩ := h3 e
    exact ⟨by simp only [List.length_cons]; omega, b⟩
theorem wfC_Q : ∀ (l : List Ce), wfC l → ∀ i, i < l.length → rowQ l i
  | [], _, i, hi => absurd hi (Nat.not_lt_zero _)
  | [c], h, i, hi => by
    have : i = 0 := by simp at hi; exact hi
    subst this
    exact ⟨h.1, fun e => absurd (h.2.symm.trans e) (by decide), fun e => absurd (h.2.symm.trans e) (by decide)⟩
  | c :: d :: l, h, i, hi => by
    obtain ⟨h1, ⟨h2, h3⟩ | ⟨h2, h3, h4⟩⟩ := h
    · cases i with
      | zero => exact ⟨h1, fun e => absurd (h2.symm.trans e) (by decide), fun e => absurd (h2.symm.trans e) (by decide)⟩
      | succ i => exact rowQ_cons (wfC_Q (d :: l) h3 i (by simpa using hi))
    · subst h3
      cases i with
      | zero => exact ⟨h1, fun e => absurd (h2.symm.trans e) (by decide), fun _ => ⟨by simp, rfl⟩⟩
      | succ i =>
        cases i with
        | zero => exact ⟨⟨h1.1, .inr (.inl ⟨rfl, rfl⟩)⟩, fun _ => ⟨by decide, h2, rfl⟩, fun e => absurd e (by decide : ¬ (0 : Int) = 2)⟩
        | succ i => exact rowQ_cons (rowQ_cons (wfC_Q l h4 i (by simpa using hi)))
theorem wfC_G {l : List Ce} (h : wfC l) (hl : l.length ≤ 300) : rowG l := ⟨hl, wfC_Q l h⟩
theorem wfC_cons1 {c : Ce} {l : List Ce} (h : mayC c.r c.w c.a) (h1 : c.w = 1) (hl : wfC l) : wfC (c :: l) := by
  cases l with
  | nil => exact ⟨h, h1⟩
  | cons d l => exact ⟨h, .inl ⟨h1, hl⟩⟩
theorem wfC_app : ∀ (a b : List Ce), wfC a → wfC b → wfC (a ++ b)
  | [], b, _, hb => hb
  | [c], b, ha, hb => wfC_cons1 ha.1 ha.2 hb
  | c :: d :: l, b, ha, hb => by
    obtain ⟨h1, ⟨h2, h3⟩ | ⟨h2, h3, h4⟩⟩ := ha
    · exact wfC_cons1 h1 h2 (wfC_app (d :: l) b h3 hb)
    · exact ⟨h1, .inr ⟨h2, h3, wfC_app l b h4 hb⟩⟩
theorem wfC_cells {c : Ce} (h : lineC c) : wfC (cellsC c) := by
  unfold cellsC
  rcases h.w with e | e
  · rw [if_neg (by omega)]; exact ⟨h.1, e⟩
  · rw [if_pos e]; exact ⟨h.1, .inr ⟨e, rfl, trivial⟩⟩
theorem wfC_blanks (n : Nat) : wfC (blanks n) := by
  induction n with
  | zero => exact trivial
  | succ n ih =>
    rw [show blanks (n + 1) = blankC :: blanks n from rfl]
    exact wfC_cons1 (by decide) rfl ih
theorem wfC_pad : wfC [padC] := ⟨by decide, rfl⟩

/-- The rows of a line. -/
theorem lay_rows (w : Nat) (hw2 : 2 ≤ w) (hw : w ≤ 300) : ∀ (l cur : List Ce), lineG l → wfC cur → cur.length ≤ w → ∀ r ∈ lay w cur l, r.1.length = w ∧ rowG r.1
  | [], cur, _, hc, hl, r, hr => by
    simp only [lay, List.mem_singleton] at hr
    subst hr
    have e : (cur ++ blanks (w - cur.length)).length = w := by rw [List.length_append, blanks_len]; omega
    exact ⟨e, wfC_G (wfC_app _ _ hc (wfC_blanks _)) (by rw [e]; exact hw)⟩
  | c :: l, cur, hg, hc, hl, r, hr => by
    have hcc := hg c List.mem_cons_self
    have hgl : lineG l := fun x hx => hg x (List.mem_cons_of_mem _ hx)
    have hlen := cellsC_len' hcc
    have hcw := hcc.w
    unfold lay at hr
    split at hr
    · rename_i hgt
      rcases List.mem_cons.1 hr with rfl | hr
      · dsimp only
        split
        · rename_i hlt
          have e : (cur ++ [padC]).length = w := by rw [List.length_append]; show cur.length + 1 = w; omega
          exact ⟨e, wfC_G (wfC_app _ _ hc wfC_pad) (by rw [e]; exact hw)⟩
        · have e : cur.length = w := by omega
          exact ⟨e, wfC_G hc (by omega)⟩
      · exact lay_rows w hw2 hw l _ hgl (wfC_cells hcc) (by omega) r hr
    · exact lay_rows w hw2 hw l _ hgl (wfC_app _ _ hc (wfC_cells hcc)) (by rw [List.length_append]; omega) r hr
theorem sndR_ok {r : Rw} (h : rowG r.1) : sndR r = r := if_pos h
theorem joinG_lay (w : Nat) (hw2 : 2 ≤ w) (hw : w ≤ 300) : ∀ (l cur acc : List Ce) (rest : List Rw), lineG l → wfC cur → cur.length ≤ w → joinG acc (lay w cur l ++ rest) = trimL (acc ++ sigL cur ++ l) :: joinL rest
  | [], cur, acc, rest, _, hc, hl => by
    have e : (cur ++ blanks (w - cur.length)).length = w := by rw [List.length_append, blanks_len]; omega
    have hG : rowG (cur ++ blanks (w - cur.length)) := wfC_G (wfC_app _ _ hc (wfC_blanks _)) (by rw [e]; exact hw)
    show joinG acc ((cur ++ blanks (w - cur.length), false) :: rest) = _
    rw [joinG_end (by rw [sndR_ok hG]; exact fun z => by cases z.1), sigR, sndR_ok hG, sigL_app, sigL_blanks, ← List.append_assoc, trimL_blanks, List.append_nil]
    rfl
  | c :: l, cur, acc, rest, hg, hc, hl => by
    have hcc := hg c List.mem_cons_self
    have hgl : lineG l := fun x hx => hg x (List.mem_cons_of_mem _ hx)
    have hlen := cellsC_len' hcc
    have hcw := hcc.w
    unfold lay
    split
    · rename_i hgt
      have hne : lay w (cellsC c) l ++ rest ≠ [] := fun z => lay_ne w (cellsC c) l (List.append_eq_nil_iff.1 z).1
      have key : ∀ row : List Ce, rowG row → sigL row = sigL cur → joinG acc ((row, true) :: (lay w (cellsC c) l ++ rest)) = trimL (acc ++ sigL cur ++ c :: l) :: joinL rest := fun row hG hs => by
        rw [joinG_wrap (by rw [sndR_ok hG]) hne, sigR, sndR_ok hG, hs, joinG_lay w hw2 hw l _ _ rest hgl (wfC_cells hcc) (by omega), sigL_cells hcc]
        simp
      rw [List.cons_append]
      split
      · rename_i hlt
        have e : (cur ++ [padC]).length = w := by rw [List.length_append]; show cur.length + 1 = w; omega
        exact key _ (wfC_G (wfC_app _ _ hc wfC_pad) (by rw [e]; exact hw)) (by rw [sigL_app, sigL_pad, List.append_nil])
      · exact key _ (wfC_G hc (by omega)) rfl
    · rw [joinG_lay w hw2 hw l _ _ rest hgl (wfC_app _ _ hc (wfC_cells hcc)) (by rw [List.length_append]; omega), sigL_app, sigL_cells hcc]
      simp

/-- What is laid out is the lines again. -/
theorem join_all (w : Int) (hw2 : 2 ≤ w) (hw : w ≤ 300) : ∀ ls : List (List Ce), (∀ l ∈ ls, lineG l) → joinL (allL ls w) = ls.map trimL
  | [], _ => rfl
  | l :: ls, h => by
    have hg := h l List.mem_cons_self
    have e : allL (l :: ls) w = lay w.toNat [] l ++ allL ls w := by
      show layL l w ++ allL ls w = _
      rw [layL, if_pos ⟨hw2, hw, hg⟩]
    rw [e]
    show joinG [] _ = _
    rw [joinG_lay w.toNat (by omega) (by omega) l [] [] _ hg trivial (Nat.zero_le _), join_all w hw2 hw ls (fun l hl => h l (List.mem_cons_of_mem _ hl))]
    rfl
end Go.Am
