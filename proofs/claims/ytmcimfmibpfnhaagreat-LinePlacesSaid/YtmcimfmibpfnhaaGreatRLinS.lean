
/- Lines, plainly: spots and places. -/
import Derived.Test.YtmcimfmibpfnhaaGreatRLinP
set_option linter.all false
set_option linter.deprecated false
namespace Go.Am
variable {oc : Orc} [OrcI oc]
set_option maxRecDepth 8000
set_option maxHeartbeats 1000000

/-- Of a row: its line, and how many of the line's cells stand ahead of it. -/
def ofF : Nat × Nat → List Rw → Nat × Nat
  | p, [] => p
  | p, r :: rs => ofF (if (sndR r).2 = true then (p.1, p.2 + (sigR r).length) else (p.1 + 1, 0)) rs
def ofN (rows : List Rw) (i : Nat) : Nat × Nat := ofF (0, 0) (rows.take i)
theorem ofF_app (p : Nat × Nat) (a b : List Rw) : ofF p (a ++ b) = ofF (ofF p a) b := by
  induction a generalizing p with
  | nil => rfl
  | cons r rs ih => exact ih _
theorem ofN_succ {rows : List Rw} {i : Nat} (h : i < rows.length) : ofN rows (i + 1) = (if (sndR (rows.getD i noRw)).2 = true then ((ofN rows i).1, (ofN rows i).2 + (sigR (rows.getD i noRw)).length) else ((ofN rows i).1 + 1, 0)) := by
  unfold ofN
  rw [List.take_add_one, List.getElem?_eq_getElem h, ofF_app, List.getD_eq_getElem?_getD, List.getElem?_eq_getElem h]
  rfl

/-- Rows that all go on. -/
theorem ofF_wrap {rows : List Rw} (h : ∀ r ∈ rows, (sndR r).2 = true) (p : Nat × Nat) : ofF p rows = (p.1, p.2 + (rows.flatMap sigR).length) := by
  induction rows generalizing p with
  | nil => rfl
  | cons r rs ih =>
    unfold ofF
    rw [if_pos (h r List.mem_cons_self), ih (fun x hx => h x (List.mem_cons_of_mem _ hx)), List.flatMap_cons, List.length_append]
    simp only [Nat.add_assoc]

/-- The first row of a row's line. -/
def firstN (rows : List Rw) : Nat → Nat
  | 0 => 0
  | i + 1 => if (sndR (rows.getD i noRw)).2 = true then firstN rows i else i + 1
theorem firstN_le (rows : List Rw) (i : Nat) : firstN rows i ≤ i := by
  induction i with
  | zero => exact Nat.le_refl 0
  | succ i ih => unfold firstN; split <;> omega
theorem firstN_wrap (rows : List Rw) (i j : Nat) (h1 : firstN rows i ≤ j) (h2 : j < i) : (sndR (rows.getD j noRw)).2 = true := by
  induction i with
  | zero => omega
  | succ i ih =>
    unfold firstN at h1
    split at h1
    · rename_i hw
      by_cases e : j = i
      · rw [e]; exact hw
      · exact ih h1 (by omega)
    · omega
theorem firstN_end (rows : List Rw) (i : Nat) (h : 0 < firstN rows i) : (sndR (rows.getD (firstN rows i - 1) noRw)).2 = false := by
  induction i with
  | zero => exact absurd h (Nat.lt_irrefl 0)
  | succ i ih =>
    unfold firstN at h ⊢
    split
    · rename_i hw; rw [if_pos hw] at h; exact ih h
    · rename_i hw; exact Bool.eq_false_iff.2 hw
theorem firstN_off (rows : List Rw) (i : Nat) (h : i ≤ rows.length) : (ofN rows i).2 = (((rows.take i).drop (firstN rows i)).flatMap sigR).length := by
  induction i with
  | zero => rfl
  | succ i ih =>
    rw [ofN_succ (by omega)]
    unfold firstN
    split
    · dsimp only
      rw [ih (by omega), List.take_add_one, List.getElem?_eq_getElem (by omega), List.drop_append_of_le_length (by have := firstN_le rows i; simp; omega), List.flatMap_append, List.length_append, List.getD_eq_getElem?_getD, List.getElem?_eq_getElem (by omega)]
      simp
    · rw [List.drop_eq_nil_of_le (by simp; omega)]; rfl
theorem joinL_len (rows : List Rw) : ∀ acc, rows ≠ [] → 0 < (joinG acc rows).length := by
  induction rows with
  | nil => intro _ h; exact absurd rfl h
  | cons r rs ih =>
    intro acc _
    by_cases hc : (sndR r).2 = true ∧ rs ≠ []
    · rw [joinG_wrap hc.1 hc.2]; exact ih _ hc.2
    · rw [joinG_end hc]; exact Nat.succ_pos _
/-- The lines up to a row that begins one. -/
theorem join_split (rows : List Rw) (k : Nat) (hk : k ≤ rows.length) (h : k = 0 ∨ (sndR (rows.getD (k - 1) noRw)).2 = false) : joinL rows = joinL (rows.take k) ++ joinL (rows.drop k) := by
  rcases Nat.eq_zero_or_pos k with rfl | hp
  · rfl
  · have h' := h.resolve_left (by omega)
    have hne : rows.take k ≠ [] := fun z => by
      have := congrArg List.length z
      rw [List.length_take, List.length_nil] at this; omega
    conv => lhs; rw [← List.take_append_drop k rows]
    refine joinG_app hne ?_
    have : (rows.take k).getLast hne = rows.getD (k - 1) noRw := by
      rw [List.getLast_eq_getElem, List.getElem_take, List.getD_eq_getElem?_getD, List.getElem?_eq_getElem (by omega)]
      simp [Nat.min_eq_left hk]
    rw [this]; exact h'
theorem ofF_len (p : Nat × Nat) (rows : List Rw) (acc : List Ce) : (ofF p rows).1 = p.1 + (joinG acc rows).length - (if rows ≠ [] ∧ (sndR (rows.getD (rows.length - 1) noRw)).2 = true then 1 else 0) := by
  induction rows generalizing p acc with
  | nil => simp [ofF, joinG_nil]
  | cons r rs ih =>
    by_cases hr : rs = []
    · subst hr
      rw [joinG_end (fun z => z.2 rfl)]
      unfold ofF
      by_cases hw : (sndR r).2 = true
      · simp [hw, ofF, joinG_nil]
      · simp [hw, ofF, joinG_nil]
    · have hl : 0 < rs.length := List.length_pos_iff.2 hr
      have e : (r :: rs).getD ((r :: rs).length - 1) noRw = rs.getD (rs.length - 1) noRw := by
        rw [List.length_cons, Nat.add_sub_cancel]
        obtain ⟨k, hk⟩ : ∃ k, rs.length = k + 1 := ⟨rs.length - 1, by omega⟩
        rw [hk]; rfl
      have hp := joinL_len rs
      unfold ofF
      rw [e]
      by_cases hw : (sndR r).2 = true
      · rw [joinG_wrap hw hr, if_pos hw, ih _ (acc ++ sigR r)]
        simp [hr]
      · have := hp [] hr
        rw [joinG_end (fun z => hw z.1), if_neg hw, ih _ []]
        simp only [hr, ne_eq, not_false_eq_true, true_and, reduceCtorEq, List.length_cons]
        split <;> omega
theorem ofN_len (rows : List Rw) (i : Nat) (h : i ≤ rows.length) : (ofN rows i).1 = (joinL (rows.take (firstN rows i))).length := by
  have hf := firstN_le rows i
  have e1 : rows.take i = rows.take (firstN rows i) ++ (rows.take i).drop (firstN rows i) := by
    conv => lhs; rw [← List.take_append_drop (firstN rows i) (rows.take i)]
    rw [List.take_take, Nat.min_eq_left hf]
  have hw : ∀ r ∈ (rows.take i).drop (firstN rows i), (sndR r).2 = true := fun r hr => by
    obtain ⟨j, hj, rfl⟩ := List.mem_iff_getElem.1 hr
    have hj2 : firstN rows i + j < i := by simp at hj; omega
    have := firstN_wrap rows i (firstN rows i + j) (by omega) hj2
    rw [List.getD_eq_getElem?_getD, List.getElem?_eq_getElem (by omega)] at this
    simpa using this
  unfold ofN
  conv => lhs; rw [e1]
  rw [ofF_app, ofF_wrap hw]
  dsimp only
  rw [ofF_len (0, 0) _ []]
  dsimp only
  rw [Nat.zero_add, if_neg, Nat.sub_zero]
  · rfl
  · rintro ⟨hne, hlast⟩
    have hp : 0 < firstN rows i := by
      rcases Nat.eq_zero_or_pos (firstN rows i) with h0 | h0
      · rw [h0] at hne; exact absurd rfl hne
      · exact h0
    have := firstN_end rows i hp
    have e2 : (rows.take (firstN rows i)).getD ((rows.take (firstN rows i)).length - 1) noRw = rows.getD (firstN rows i - 1) noRw := by
      rw [List.length_take, Nat.min_eq_left (by omega), List.getD_eq_getElem?_getD, List.getElem?_take, if_pos (by omega), List.getD_eq_getElem?_getD]
    rw [e2, this] at hlast
    cases hlast

/-- The first line is that of the rows that go on. -/
theorem join_head : ∀ (rs : List Rw) (m : Nat) (acc : List Ce), 0 < m → m ≤ rs.length → (∀ j, j + 1 < m → (sndR (rs.getD j noRw)).2 = true) → (m = rs.length ∨ (sndR (rs.getD (m - 1) noRw)).2 = false) → (joinG acc (rs.take m)).getD 0 [] = (joinG acc rs).getD 0 []
  | [], m, acc, h0, h1, _, _ => by simp at h1; omega
  | r :: rs, m, acc, h0, h1, hw, he => by
    obtain ⟨k, rfl⟩ : ∃ k, m = k + 1 := ⟨m - 1, by omega⟩
    rw [List.take_succ_cons]
    by_cases hk : k = 0
    · subst hk
      rw [List.take_zero, joinG_end (fun z => z.2 rfl)]
      rw [joinG_end]
      · rfl
      · rintro ⟨z1, z2⟩
        rcases he with he | he
        · exact z2 (List.length_eq_zero_iff.1 (by rw [List.length_cons] at he; omega))
        · have he' : (sndR r).2 = false := he
          rw [he'] at z1; cases z1
    · have hr : (sndR r).2 = true := hw 0 (by omega)
      have hl : k ≤ rs.length := by simpa using h1
      have hn1 : rs.take k ≠ [] := fun z => by
        have := congrArg List.length z
        rw [List.length_take, List.length_nil] at this; omega
      have hn2 : rs ≠ [] := fun z => by rw [z] at hl; simp at hl; omega
      rw [joinG_wrap hr hn1, joinG_wrap hr hn2]
      refine join_head rs k _ (by omega) hl (fun j hj => ?_) ?_
      · have := hw (j + 1) (by omega)
        simpa using this
      · rcases he with he | he
        · left; simpa using he
        · right
          obtain ⟨q, rfl⟩ : ∃ q, k = q + 1 := ⟨k - 1, by omega⟩
          simpa using he
theorem ofN_first (rows : List Rw) (i : Nat) (h : i ≤ rows.length) : joinL rows = joinL (rows.take (firstN rows i)) ++ joinL (rows.drop (firstN rows i)) := by
  have := firstN_le rows i
  refine join_split rows _ (by omega) ?_
  rcases Nat.eq_zero_or_pos (firstN rows i) with h0 | h0
  · exact .inl h0
  · exact .inr (firstN_end rows i h0)
/-- A row's line, out of its rows. -/
theorem line_of (rows : List Rw) (i e : Nat) (h : i < rows.length) (h1 : i < e) (h2 : e ≤ rows.length) (hw : ∀ j, i ≤ j → j + 1 < e → (sndR (rows.getD j noRw)).2 = true) (he : e = rows.length ∨ (sndR (rows.getD (e - 1) noRw)).2 = false) :
    (joinL ((rows.drop (firstN rows i)).take (e - firstN rows i))).getD 0 [] = (joinL rows).getD (ofN rows i).1 [] := by
  have hf := firstN_le rows i
  rw [ofN_first rows i (by omega), ofN_len rows i (by omega)]
  rw [show ∀ (a b : List (List Ce)), (a ++ b).getD a.length [] = b.getD 0 [] from fun a b => by rw [List.getD_eq_getElem?_getD, List.getElem?_append_right (Nat.le_refl _), Nat.sub_self, List.getD_eq_getElem?_getD]]
  have hd : ∀ j, (rows.drop (firstN rows i)).getD j noRw = rows.getD (firstN rows i + j) noRw := fun j => by
    rw [List.getD_eq_getElem?_getD, List.getElem?_drop, List.getD_eq_getElem?_getD]
  refine join_head _ _ [] (by omega) (by simp; omega) (fun j hj => ?_) ?_
  · rw [hd]
    by_cases hji : firstN rows i + j < i
    · exact firstN_wrap rows i _ (by omega) hji
    · exact hw _ (by omega) (by omega)
  · rcases he with he | he
    · left; simp; omega
    · right
      rw [hd, show firstN rows i + (e - firstN rows i - 1) = e - 1 by omega]; exact he
/-! Spots. -/
def colOf (l : List Ce) (pc : Int) : Nat := if (min (max pc 0) l.length).toNat < l.length ∧ (l.getD (min (max pc 0) l.length).toNat zeroC).w = 0 then (min (max pc 0) l.length).toNat - 1 else (min (max pc 0) l.length).toNat
def offL (rows : List Rw) (i : Nat) (pc : Int) : Nat := (ofN rows i).2 + (sigL ((sndR (rows.getD i noRw)).1.take (colOf (sndR (rows.getD i noRw)).1 pc))).length
def spotL (rows : List Rw) (pr pc : Int) : Nat × Nat × Nat :=
  if 0 ≤ pr ∧ pr < rows.length then
    (if ((joinL rows).getD (ofN rows pr.toNat).1 []).length < offL rows pr.toNat pc then ((ofN rows pr.toNat).1, ((joinL rows).getD (ofN rows pr.toNat).1 []).length, offL rows pr.toNat pc - ((joinL rows).getD (ofN rows pr.toNat).1 []).length)
    else ((ofN rows pr.toNat).1, offL rows pr.toNat pc, 0))
  else (0, 0, 0)
/-! Places. -/
def posA (w : Nat) : Nat → Nat → List Ce → Nat → Nat × Nat
  | r, col, [], _ => (r, col)
  | r, col, c :: _, 0 => if w < col + c.w.toNat then (r + 1, 0) else (r, col)
  | r, col, c :: l, k + 1 => if w < col + c.w.toNat then posA w (r + 1) c.w.toNat l k else posA w r (col + c.w.toNat) l k
theorem posA_shift (w : Nat) : ∀ (l : List Ce) (r col k : Nat), posA w r col l k = (r + (posA w 0 col l k).1, (posA w 0 col l k).2)
  | [], r, col, k => by cases k <;> rfl
  | c :: l, r, col, 0 => by unfold posA; split <;> rfl
  | c :: l, r, col, k + 1 => by
    unfold posA
    split
    · rw [posA_shift w l (r + 1), posA_shift w l (0 + 1)]
      simp only [Nat.add_assoc, Nat.zero_add]
    · exact posA_shift w l r _ k
def placeL (ls : List (List Ce)) (w line off past : Int) : Nat × Nat :=
  if 0 ≤ line ∧ line < ls.length ∧ 0 ≤ off ∧ off ≤ (ls.getD line.toNat []).length ∧ 0 ≤ past ∧ mayL (ls.getD line.toNat []) w then
    ((allL (ls.take line.toNat) w).length + (posA w.toNat 0 0 (ls.getD line.toNat []) off.toNat).1,
     if off = (ls.getD line.toNat []).length ∧ 0 < past then (min ((posA w.toNat 0 0 (ls.getD line.toNat []) off.toNat).2 + min past w) (w - 1)).toNat else (posA w.toNat 0 0 (ls.getD line.toNat []) off.toNat).2)
  else (0, 0)
theorem lay_pre (w : Nat) : ∀ (l cur : List Ce), ∃ t b rest, lay w cur l = (cur ++ t, b) :: rest
  | [], cur => ⟨_, _, _, rfl⟩
  | c :: l, cur => by
    unfold lay
    split
    · split
      · exact ⟨_, _, _, rfl⟩
      · exact ⟨[], _, _, by rw [List.append_nil]⟩
    · obtain ⟨t, b, rest, h⟩ := lay_pre w l (cur ++ cellsC c)
      exact ⟨cellsC c ++ t, b, rest, by rw [h, List.append_assoc]⟩
theorem cellsC_head (c : Ce) : ∃ t, cellsC c = c :: t := by unfold cellsC; split <;> exact ⟨_, rfl⟩

/-- Where a cell of a line stands. -/
theorem lay_pos (w : Nat) (hw2 : 2 ≤ w) (hw : w ≤ 300) : ∀ (l cur : List Ce) (k : Nat), lineG l → wfC cur → cur.length ≤ w → k < l.length →
    ∃ row, (lay w cur l)[(posA w 0 cur.length l k).1]? = some row ∧ row.1.getD (posA w 0 cur.length l k).2 zeroC = l.getD k zeroC ∧ (posA w 0 cur.length l k).2 < w ∧
      ((lay w cur l).take (posA w 0 cur.length l k).1).flatMap sigR ++ sigL (row.1.take (posA w 0 cur.length l k).2) = sigL cur ++ l.take k
  | [], cur, k, _, _, _, hk => absurd hk (Nat.not_lt_zero _)
  | c :: l, cur, k, hg, hc, hl, hk => by
    have hcc := hg c List.mem_cons_self
    have hgl : lineG l := fun x hx => hg x (List.mem_cons_of_mem _ hx)
    have hlen := cellsC_len' hcc
    have hcw := hcc.w
    obtain ⟨ct, hct⟩ := cellsC_head c
    have first : ∀ row : List Ce, rowG row → sigL row = sigL cur → ∀ (rest : List Ce) (k' : Nat), sigR (row, true) = sigL cur := fun row hG hs _ _ => by rw [sigR, sndR_ok hG]; exact hs
    unfold lay
    by_cases hgt : w < cur.length + c.w.toNat
    · rw [if_pos hgt]
      obtain ⟨row0, hrow0, hs0⟩ : ∃ row0 : List Ce, (if cur.length < w then cur ++ [padC] else cur) = row0 ∧ sigR (row0, true) = sigL cur := by
        split
        · rename_i hlt
          have e : (cur ++ [padC]).length = w := by rw [List.length_append]; show cur.length + 1 = w; omega
          exact ⟨_, rfl, first _ (wfC_G (wfC_app _ _ hc wfC_pad) (by rw [e]; exact hw)) (by rw [sigL_app, sigL_pad, List.append_nil]) [] 0⟩
        · exact ⟨_, rfl, first _ (wfC_G hc (by omega)) rfl [] 0⟩
      rw [hrow0]
      cases k with
      | zero =>
        obtain ⟨t, b, rest, hpre⟩ := lay_pre w l (cellsC c)
        have e : posA w 0 cur.length (c :: l) 0 = (1, 0) := by unfold posA; rw [if_pos hgt]
        rw [e, hpre, hct]
        refine ⟨_, rfl, rfl, by omega, ?_⟩
        simp [hs0, sigL_nil]
      | succ k =>
        have e : posA w 0 cur.length (c :: l) (k + 1) = (1 + (posA w 0 (cellsC c).length l k).1, (posA w 0 (cellsC c).length l k).2) := by
          have e0 : posA w 0 cur.length (c :: l) (k + 1) = if w < cur.length + c.w.toNat then posA w (0 + 1) c.w.toNat l k else posA w 0 (cur.length + c.w.toNat) l k := rfl
          rw [e0, if_pos hgt, posA_shift, hlen, Nat.zero_add]
        obtain ⟨row, h1, h2, h3, h4⟩ := lay_pos w hw2 hw l (cellsC c) k hgl (wfC_cells hcc) (by omega) (by simpa using hk)
        rw [e]
        refine ⟨row, ?_, by simpa using h2, h3, ?_⟩
        · rw [Nat.add_comm]; simpa using h1
        · dsimp only
          rw [Nat.add_comm, List.take_succ_cons, List.flatMap_cons, List.append_assoc, h4, hs0, sigL_cells hcc]
          simp
    · rw [if_neg hgt]
      have hl2 : (cur ++ cellsC c).length = cur.length + c.w.toNat := by rw [List.length_append, hlen]
      cases k with
      | zero =>
        have e : posA w 0 cur.length (c :: l) 0 = (0, cur.length) := by unfold posA; rw [if_neg hgt]
        obtain ⟨t, b, rest, hpre⟩ := lay_pre w l (cur ++ cellsC c)
        rw [e, hpre, hct]
        refine ⟨_, rfl, ?_, by omega, ?_⟩
        · simp [List.getD_eq_getElem?_getD]
        · simp
      | succ k =>
        have e : posA w 0 cur.length (c :: l) (k + 1) = posA w 0 (cur ++ cellsC c).length l k := by
          conv => lhs; unfold posA
          rw [if_neg hgt, hl2]
        obtain ⟨row, h1, h2, h3, h4⟩ := lay_pos w hw2 hw l (cur ++ cellsC c) k hgl (wfC_app _ _ hc (wfC_cells hcc)) (by omega) (by simpa using hk)
        rw [e]
        refine ⟨row, h1, by simpa using h2, h3, ?_⟩
        rw [h4, sigL_app, sigL_cells hcc]
        simp
theorem lay_wrap (w : Nat) : ∀ (l cur : List Ce) (j : Nat), j < (lay w cur l).length → ((lay w cur l).getD j noRw).2 = decide (j + 1 < (lay w cur l).length)
  | [], cur, j, h => by
    have : j = 0 := by simpa [lay] using h
    subst this; rfl
  | c :: l, cur, j, h => by
    unfold lay at h ⊢
    split
    · rename_i hgt
      rw [if_pos hgt] at h
      cases j with
      | zero =>
        have : 0 < (lay w (cellsC c) l).length := List.length_pos_iff.2 (lay_ne _ _ _)
        show true = _
        symm; rw [decide_eq_true_eq, List.length_cons]; omega
      | succ j =>
        have := lay_wrap w l (cellsC c) j (by simpa using h)
        rw [List.length_cons]
        show ((lay w (cellsC c) l).getD j noRw).2 = _
        rw [this]
        simp
    · rename_i hgt
      rw [if_neg hgt] at h
      exact lay_wrap w l _ j h

/-- Where a line ends. -/
theorem lay_end (w : Nat) (hw2 : 2 ≤ w) : ∀ (l cur : List Ce), lineG l → cur.length ≤ w → (posA w 0 cur.length l l.length).1 + 1 = (lay w cur l).length ∧ (posA w 0 cur.length l l.length).2 ≤ w
  | [], cur, _, hl => ⟨rfl, hl⟩
  | c :: l, cur, hg, hl => by
    have hcc := hg c List.mem_cons_self
    have hgl : lineG l := fun x hx => hg x (List.mem_cons_of_mem _ hx)
    have hlen := cellsC_len' hcc
    have hcw := hcc.w
    rw [List.length_cons]
    unfold lay posA
    split
    · rw [posA_shift]
      have := lay_end w hw2 l (cellsC c) hgl (by omega)
      rw [hlen] at this
      refine ⟨?_, this.2⟩
      rw [List.length_cons]; dsimp only; omega
    · have := lay_end w hw2 l (cur ++ cellsC c) hgl (by rw [List.length_append]; omega)
      rw [List.length_append, hlen] at this
      exact this

/-- One cell behind the other. -/
def lexLt (p q : Nat × Nat) : Prop := p.1 < q.1 ∨ p.1 = q.1 ∧ p.2 < q.2
theorem posA_lt (w : Nat) : ∀ (l : List Ce) (r col k : Nat), lineG l → k + 1 < l.length → lexLt (posA w r col l k) (posA w r col l (k + 1))
  | [], _, _, _, _, h => absurd h (Nat.not_lt_zero _)
  | [c], _, _, k, _, h => by simp at h
  | c :: d :: l, r, col, 0, hg, _ => by
    have hcw := (hg c List.mem_cons_self).w
    unfold posA
    split
    · unfold posA
      split
      · left; dsimp only; omega
      · right; dsimp only; omega
    · unfold posA
      split
      · left; dsimp only; omega
      · right; dsimp only; omega
  | c :: d :: l, r, col, k + 1, hg, h => by
    have hgl : lineG (d :: l) := fun x hx => hg x (List.mem_cons_of_mem _ hx)
    have e : ∀ k, posA w r col (c :: d :: l) (k + 1) = if w < col + c.w.toNat then posA w (r + 1) c.w.toNat (d :: l) k else posA w r (col + c.w.toNat) (d :: l) k := fun k => rfl
    rw [e, e]
    split
    · exact posA_lt w (d :: l) _ _ k hgl (by simpa using h)
    · exact posA_lt w (d :: l) _ _ k hgl (by simpa using h)
theorem allL_app (a b : List (List Ce)) (w : Int) : allL (a ++ b) w = allL a w ++ allL b w := List.flatMap_append
theorem allL_cons (l : List Ce) (ls : List (List Ce)) (w : Int) : allL (l :: ls) w = layL l w ++ allL ls w := rfl
theorem allL_at {ls : List (List Ce)} {w : Int} {i : Nat} (hi : i < ls.length) : allL ls w = allL (ls.take i) w ++ (layL (ls.getD i []) w ++ allL (ls.drop (i + 1)) w) := by
  rw [← allL_cons, ← allL_app]
  congr 1
  rw [List.getD_eq_getElem?_getD, List.getElem?_eq_getElem hi]
  have := List.drop_eq_getElem_cons hi
  conv => lhs; rw [← List.take_append_drop i ls, this]
  rfl
theorem ofF_lay (w : Nat) (hw2 : 2 ≤ w) (hw : w ≤ 300) (l : List Ce) (hg : lineG l) (p : Nat × Nat) : ofF p (lay w [] l) = (p.1 + 1, 0) := by
  have hr := lay_rows w hw2 hw l [] hg trivial (Nat.zero_le _)
  have hwr := lay_wrap w l []
  have hne := lay_ne w [] l
  generalize lay w [] l = rs at *
  obtain ⟨rs', last, rfl⟩ : ∃ rs' last, rs = rs' ++ [last] := by
    rcases List.eq_nil_or_concat rs with h | ⟨m, c, h⟩
    · exact absurd h hne
    · exact ⟨m, c, by simpa using h⟩
  have h1 : ∀ r ∈ rs', (sndR r).2 = true := fun r hm => by
    obtain ⟨j, hj, rfl⟩ := List.mem_iff_getElem.1 hm
    have := hwr j (by simp; omega)
    rw [List.getD_eq_getElem?_getD, List.getElem?_append_left hj, List.getElem?_eq_getElem hj] at this
    rw [sndR_ok (hr _ (List.mem_append_left _ hm)).2]
    rw [show (rs'[j]).2 = _ from this]
    simp; omega
  have h2 : (sndR last).2 = false := by
    have := hwr rs'.length (by simp)
    rw [List.getD_eq_getElem?_getD, List.getElem?_append_right (Nat.le_refl _), Nat.sub_self] at this
    rw [sndR_ok (hr _ (by simp)).2]
    rw [show last.2 = _ from this]
    simp
  rw [ofF_app, ofF_wrap h1]
  unfold ofF
  rw [h2]
  rfl
theorem ofF_all (w : Int) (hw2 : 2 ≤ w) (hw : w ≤ 300) : ∀ (ls : List (List Ce)) (n : Nat), (∀ l ∈ ls, lineG l) → ofF (n, 0) (allL ls w) = (n + ls.length, 0)
  | [], n, _ => rfl
  | l :: ls, n, h => by
    have hg := h l List.mem_cons_self
    rw [allL_cons, ofF_app, layL, if_pos ⟨hw2, hw, hg⟩, ofF_lay w.toNat (by omega) (by omega) l hg, ofF_all w hw2 hw ls _ fun l hl => h l (List.mem_cons_of_mem _ hl), List.length_cons, Nat.add_assoc, Nat.add_comm 1]

/-- From a cell's place one comes back to the cell. -/
theorem spot_place (w : Int) (hw2 : 2 ≤ w) (hw : w ≤ 300) (ls : List (List Ce)) (h : ∀ l ∈ ls, lineG l) (i k : Nat) (hi : i < ls.length) (hk : k < (trimL (ls.getD i [])).length) :
    ∃ row, (allL ls w)[(placeL ls w i k 0).1]? = some row ∧ row.1.length = w.toNat ∧ (placeL ls w i k 0).2 < w.toNat ∧ row.1.getD (placeL ls w i k 0).2 zeroC = (trimL (ls.getD i [])).getD k zeroC ∧ spotL (allL ls w) (placeL ls w i k 0).1 (placeL ls w i k 0).2 = (i, k, 0) := by
  have hmem : ls.getD i [] ∈ ls := by rw [List.getD_eq_getElem?_getD, List.getElem?_eq_getElem hi]; exact List.getElem_mem hi
  have hg := h _ hmem
  have hk2 : k < (ls.getD i []).length := by have := trimL_len (ls.getD i []); have := usedN_le (ls.getD i []) (ls.getD i []).length; omega
  have hpl : placeL ls w i k 0 = ((allL (ls.take i) w).length + (posA w.toNat 0 0 (ls.getD i []) k).1, (posA w.toNat 0 0 (ls.getD i []) k).2) := by
    unfold placeL
    rw [if_pos ⟨by omega, by omega, by omega, by simp only [Int.toNat_natCast]; omega, by omega, hw2, hw, by simpa using hg⟩]
    simp only [Int.toNat_natCast]
    rw [if_neg (fun z => by omega)]
  have hall := allL_at (w := w) hi
  rw [layL, if_pos ⟨hw2, hw, hg⟩] at hall
  obtain ⟨row, h1, h2, h3, h4⟩ := lay_pos w.toNat (by omega) (by omega) (ls.getD i []) [] k hg trivial (Nat.zero_le _) hk2
  rw [List.length_nil] at h1 h2 h3 h4
  rw [sigL_nil, List.nil_append] at h4
  have hrows := lay_rows w.toNat (by omega) (by omega) (ls.getD i []) [] hg trivial (Nat.zero_le _)
  have hwrap := lay_wrap w.toNat (ls.getD i []) []
  have hjoin := join_all w hw2 hw ls h
  have hof : ofF (0, 0) (allL (ls.take i) w) = (i, 0) := by
    rw [ofF_all w hw2 hw _ _ fun l hl => h l (List.mem_of_mem_take hl), List.length_take, Nat.min_eq_left (by omega), Nat.zero_add]
  rw [hpl]
  dsimp only
  generalize allL (ls.take i) w = A at *
  generalize allL (ls.drop (i + 1)) w = Z at *
  generalize hL : lay w.toNat [] (ls.getD i []) = L at *
  generalize hq : posA w.toNat 0 0 (ls.getD i []) k = q at *
  obtain ⟨q1, q2⟩ := q
  dsimp only at *
  have hq1 : q1 < L.length := by
    rcases Nat.lt_or_ge q1 L.length with hh | hh
    · exact hh
    · rw [List.getElem?_eq_none hh] at h1; cases h1
  have hrow := List.mem_of_getElem? h1
  obtain ⟨r1, r2⟩ := hrows row hrow
  have hget : (allL ls w)[A.length + q1]? = some row := by
    rw [hall, List.getElem?_append_right (by omega), Nat.add_sub_cancel_left, List.getElem?_append_left hq1]; exact h1
  have htr : (trimL (ls.getD i [])).getD k zeroC = (ls.getD i []).getD k zeroC := by
    unfold trimL at hk ⊢
    generalize ls.getD i [] = l0 at *
    rw [List.length_take] at hk
    rw [List.getD_eq_getElem?_getD, List.getElem?_take, if_pos (by omega), List.getD_eq_getElem?_getD]
  refine ⟨row, hget, r1, h3, by rw [h2, htr], ?_⟩
  have hlen : A.length + q1 < (allL ls w).length := by rw [hall]; simp; omega
  have hD : (allL ls w).getD (A.length + q1) noRw = row := by rw [List.getD_eq_getElem?_getD, hget]; rfl
  have hofq : ofN (allL ls w) (A.length + q1) = (i, ((L.take q1).flatMap sigR).length) := by
    unfold ofN
    rw [hall, List.take_length_add_append, List.take_append_of_le_length (by omega), ofF_app, hof, ofF_wrap, Nat.zero_add]
    intro r hr
    obtain ⟨j, hj, rfl⟩ := List.mem_iff_getElem.1 hr
    have hj' : j < q1 := by simp at hj; omega
    have hw' := hwrap j (by omega)
    rw [List.getD_eq_getElem?_getD, List.getElem?_eq_getElem (by omega)] at hw'
    rw [List.getElem_take, sndR_ok (hrows _ (List.getElem_mem _)).2]
    rw [show (L[j]).2 = _ from hw']
    simp; omega
  have hcell := hg ((ls.getD i []).getD k zeroC) (by rw [List.getD_eq_getElem?_getD (l := ls.getD i []), List.getElem?_eq_getElem hk2]; exact List.getElem_mem _)
  have hcol : colOf row.1 q2 = q2 := by
    unfold colOf
    have e : (min (max (q2 : Int) 0) (row.1.length : Int)).toNat = q2 := by omega
    rw [e, if_neg]
    rintro ⟨_, z⟩
    rw [h2] at z
    exact hcell.2.1 z
  have hoff : offL (allL ls w) (A.length + q1) q2 = k := by
    unfold offL
    rw [hofq, hD, sndR_ok r2, hcol]
    have := congrArg List.length h4
    rw [List.length_append, List.length_take] at this
    dsimp only; omega
  have hj2 : (joinL (allL ls w)).getD i [] = trimL (ls.getD i []) := by
    rw [hjoin, List.getD_eq_getElem?_getD, List.getElem?_map, List.getD_eq_getElem?_getD, List.getElem?_eq_getElem hi]; rfl
  unfold spotL
  simp only [Int.toNat_natCast]
  rw [if_pos ⟨by omega, by omega⟩, hoff, hofq]
  dsimp only
  rw [hj2, if_neg (by omega)]
/-! Rows joined, as the document says. -/
def rawF : List (List Ce) × Bool → List Rw → List (List Ce) × Bool
  | p, [] => p
  | p, r :: rs => rawF ((if p.2 = true then p.1.dropLast ++ [p.1.getLastD [] ++ sigR r] else p.1 ++ [sigR r]), (sndR r).2) rs
theorem rawF_app (p : List (List Ce) × Bool) (a b : List Rw) : rawF p (a ++ b) = rawF (rawF p a) b := by
  induction a generalizing p with
  | nil => rfl
  | cons r rs ih => exact ih _
theorem rawF_join (rows : List Rw) : (∀ out, ((rawF (out, false) rows).1).map trimL = out.map trimL ++ joinL rows) ∧ ∀ out acc, ((rawF (out ++ [acc], true) rows).1).map trimL = out.map trimL ++ (if rows = [] then [trimL acc] else joinG acc rows) := by
  induction rows with
  | nil =>
    refine ⟨fun out => ?_, fun out acc => ?_⟩
    · show out.map trimL = out.map trimL ++ []
      rw [List.append_nil]
    · show (out ++ [acc]).map trimL = _
      rw [List.map_append]; rfl
  | cons r rs ih =>
    obtain ⟨ih1, ih2⟩ := ih
    have step : ∀ (out : List (List Ce)) (l : List Ce), ((rawF (out ++ [l], (sndR r).2) rs).1).map trimL = out.map trimL ++ (if (sndR r).2 = true ∧ rs ≠ [] then joinG l rs else trimL l :: joinL rs) := fun out l => by
      cases hw : (sndR r).2 with
      | false =>
        rw [ih1, List.map_append, List.append_assoc, if_neg (fun z => by cases z.1)]; rfl
      | true =>
        rw [ih2]
        by_cases hr : rs = []
        · subst hr; rw [if_pos rfl, if_neg (fun z => z.2 rfl)]; rfl
        · rw [if_neg hr, if_pos ⟨rfl, hr⟩]
    refine ⟨fun out => ?_, fun out acc => ?_⟩
    · show ((rawF (out ++ [sigR r], (sndR r).2) rs).1).map trimL = _
      rw [step]
      rfl
    · show ((rawF ((out ++ [acc]).dropLast ++ [(out ++ [acc]).getLastD [] ++ sigR r], (sndR r).2) rs).1).map trimL = _
      rw [List.dropLast_concat, List.getLastD_concat, step, if_neg (List.cons_ne_nil _ _)]
      rfl
theorem raw_join (rows : List Rw) : ((rawF ([], false) rows).1).map trimL = joinL rows := (rawF_join rows).1 []
theorem raw_of (rows : List Rw) (i : Nat) (h : i ≤ rows.length) : (ofN rows i).1 + (if (rawF ([], false) (rows.take i)).2 = true then 1 else 0) = (rawF ([], false) (rows.take i)).1.length := by
  induction i with
  | zero => rfl
  | succ i ih =>
    have hlt : i < rows.length := by omega
    have ih' := ih (by omega)
    have e : rows.take (i + 1) = rows.take i ++ [rows.getD i noRw] := by
      rw [List.take_add_one, List.getElem?_eq_getElem hlt, List.getD_eq_getElem?_getD, List.getElem?_eq_getElem hlt]; rfl
    rw [ofN_succ hlt, e, rawF_app]
    generalize rawF ([], false) (rows.take i) = p at *
    obtain ⟨out, op⟩ := p
    dsimp only at ih'
    show _ = (if op = true then out.dropLast ++ [out.getLastD [] ++ sigR (rows.getD i noRw)] else out ++ [sigR (rows.getD i noRw)]).length
    have e2 : (rawF (out, op) [rows.getD i noRw]).2 = (sndR (rows.getD i noRw)).2 := rfl
    rw [e2]
    cases op with
    | true =>
      rw [if_pos rfl] at ih'
      rw [if_pos rfl, List.length_append, List.length_dropLast]
      by_cases hw : (sndR (rows.getD i noRw)).2 = true
      · rw [if_pos hw, if_pos hw]; show (ofN rows i).1 + 1 = out.length - 1 + 1; omega
      · rw [if_neg hw, if_neg hw]; show (ofN rows i).1 + 1 + 0 = out.length - 1 + 1; omega
    | false =>
      rw [if_neg (by decide)] at ih'
      rw [if_neg (Bool.false_ne_true), List.length_append]
      by_cases hw : (sndR (rows.getD i noRw)).2 = true
      · rw [if_pos hw, if_pos hw]; show (ofN rows i).1 + 1 = out.length + 1; omega
      · rw [if_neg hw, if_neg hw]; show (ofN rows i).1 + 1 + 0 = out.length + 1; omega
end Go.Am
