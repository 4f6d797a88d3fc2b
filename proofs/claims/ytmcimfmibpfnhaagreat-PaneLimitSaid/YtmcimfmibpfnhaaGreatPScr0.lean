
/- Screens, plainly: what events do to them. -/
import Derived.Test.YtmcimfmibpfnhaaGreatPRowA
import Derived.Test.YtmcimfmibpfnhaaGreatPEscQ
set_option linter.all false
set_option linter.deprecated false
namespace Go.Am
variable {oc : Orc} [OrcI oc]
open Go.Proofs
set_option maxRecDepth 8000
set_option maxHeartbeats 4000000
structure Sc where
  w : Int
  h : Int
  rows : List Rw
  row : Int
  col : Int
  attr : Int
def rowSet (r : Rw) (col : Int) (m : List Ce) : Rw := (setL r.1 col m, r.2)
def rowEra (r : Rw) (a b : Int) : Rw := (erL r.1 a b, erW r.1 r.2 a b)
def Sc.cur (s : Sc) : Rw := s.rows.getD s.row.toNat noRw
def Sc.put (s : Sc) (r : Rw) : Sc := { s with rows := s.rows.set s.row.toNat r }

/-- To the next row. -/
def Sc.dn (s : Sc) : Sc × List Rw :=
  if s.row + 1 < s.h then ({ s with row := s.row + 1 }, []) else ({ s with rows := s.rows.tail ++ [(blanks s.w.toNat, false)] }, [s.rows.getD 0 noRw])

/-- A sign that has no room goes to the next row. -/
def Sc.wrapped (s : Sc) : Sc × List Rw :=
  let s1 := if s.col < s.w then s.put (rowSet s.cur s.col [padC]) else s
  let p := (s1.put (s1.cur.1, true)).dn
  ({ p.1 with col := 0 }, p.2)
def Sc.signs (s : Sc) (l : List Ce) : Sc := { s.put (rowSet s.cur s.col l) with col := s.col + l.length }
def Sc.pr (s : Sc) (r : Int) : Sc × List Rw :=
  if ofC r s.attr = [] then (s, []) else
  if s.col + (ofC r s.attr).length ≤ s.w then (s.signs (ofC r s.attr), []) else
  (s.wrapped.1.signs (ofC r s.attr), s.wrapped.2)
def Sc.ctl (s : Sc) (r : Int) : Sc × List Rw :=
  if r = 8 then ({ s with col := max (s.col - 1) 0 }, [])
  else if r = 9 then ({ s with col := min ((s.col / 8 + 1) * 8) (s.w - 1) }, [])
  else if r = 10 then ({ s with col := min s.col (s.w - 1) } : Sc).dn
  else if r = 13 then ({ s with col := 0 }, [])
  else (s, [])
def argI (l : List Int) (i : Nat) (d : Int) : Int := if l.getD i 0 = 0 then d else l.getD i 0
def clr1 (how : Int) (all : Bool) (w row col : Int) (i : Nat) (r : Rw) : Rw :=
  if (i : Int) = row then
    if how = 0 then rowEra r col w else if how = 1 then rowEra r 0 (col + 1) else if how = 2 then rowEra r 0 w else r
  else if all = true ∧ (how = 2 ∨ (how = 0 ∧ row < i) ∨ (how = 1 ∧ (i : Int) < row)) then rowEra r 0 w else r
def Sc.clr (s : Sc) (how : Int) (all : Bool) : Sc := { s with rows := (List.range s.rows.length).map fun i => clr1 how all s.w s.row s.col i (s.rows.getD i noRw) }
def isCsi (r : Int) : Prop := r = 65 ∨ r = 66 ∨ r = 67 ∨ r = 68 ∨ r = 72 ∨ r = 74 ∨ r = 75 ∨ r = 109
instance (r : Int) : Decidable (isCsi r) := inferInstanceAs (Decidable (_ ∨ _))
def Sc.mov (s : Sc) (r : Int) (a : List Int) : Sc :=
  if r = 65 then { s with row := max 0 (s.row - argI a 0 1) }
  else if r = 66 then { s with row := min (s.h - 1) (s.row + argI a 0 1) }
  else if r = 67 then { s with col := min (s.w - 1) (s.col + argI a 0 1) }
  else if r = 68 then { s with col := max 0 (s.col - argI a 0 1) }
  else if r = 72 then { s with row := min (argI a 0 1) s.h - 1, col := min (argI a 1 1) s.w - 1 }
  else s
def Sc.csi (s : Sc) (r : Int) (a : List Int) : Sc :=
  if isCsi r then
    let t : Sc := { s with col := min s.col (s.w - 1) }
    if r = 74 then t.clr (argI a 0 0) true
    else if r = 75 then t.clr (argI a 0 0) false
    else if r = 109 then { t with attr := a.foldl (fun _ n => n % 256) 0 }
    else t.mov r a
  else s
def Sc.ev (s : Sc) (k r : Int) (a : List Int) : Sc × List Rw :=
  if k = 1 then s.pr r else if k = 2 then s.ctl r else if k = 3 then (s.csi r a, []) else (s, [])

/-! What stays true. -/
def RwG (w : Int) (r : Rw) : Prop := rowG r.1 ∧ R32 r.1 ∧ (r.1.length : Int) = w
structure ScG (s : Sc) : Prop where
  w2 : 2 ≤ s.w
  w3 : s.w ≤ 300
  h1 : 1 ≤ s.h
  h2 : s.h ≤ 100
  len : (s.rows.length : Int) = s.h
  rw : ∀ r ∈ s.rows, RwG s.w r
  r0 : 0 ≤ s.row
  rh : s.row < s.h
  c0 : 0 ≤ s.col
  cw : s.col ≤ s.w
  a0 : 0 ≤ s.attr
  a1 : s.attr ≤ 255
theorem RwG.set {w : Int} {r : Rw} (h : RwG w r) {m : List Ce} (hm : R32 m) (col : Int) : RwG w (rowSet r col m) :=
  ⟨setL_ok h.1, setL_R h.2.1 hm, by show ((setL _ _ _).length : Int) = w; rw [setL_len]; exact h.2.2⟩
theorem RwG.era {w : Int} {r : Rw} (h : RwG w r) (a b : Int) : RwG w (rowEra r a b) :=
  ⟨erL_ok h.1, erL_R h.2.1, by show ((erL _ _ _).length : Int) = w; rw [erL_len]; exact h.2.2⟩
theorem RwG.wr {w : Int} {r : Rw} (h : RwG w r) (b : Bool) : RwG w (r.1, b) := h
theorem rowG_blanks (n : Nat) (h : n ≤ 300) : rowG (blanks n) := by
  refine ⟨by rw [blanks_len]; exact h, fun i hi => ?_⟩
  rw [blanks_len] at hi
  have e := blanks_at n i hi
  refine ⟨by rw [e]; decide +kernel, ?_, ?_⟩
  · intro h0; rw [e] at h0; exact absurd h0 (by decide)
  · intro h0; rw [e] at h0; exact absurd h0 (by decide)
theorem RwG.blank {w : Int} (h0 : 0 ≤ w) (h : w ≤ 300) : RwG w (blanks w.toNat, false) := ⟨rowG_blanks _ (by omega), R32_blanks _, by rw [blanks_len]; omega⟩
theorem getMem {α : Type} {l : List α} {i : Nat} (d : α) (h : i < l.length) : l.getD i d ∈ l := by
  rw [List.getD_eq_getElem?_getD, List.getElem?_eq_getElem h]; exact List.getElem_mem h
theorem R32_ofC (r a : Int) (hr : -2147483648 ≤ r ∧ r ≤ 2147483647) : R32 (ofC r a) := fun i => by
  unfold ofC
  split
  · simp
  · split
    · rcases i with _ | _ | i <;> simp [hr]
    · rcases i with _ | i <;> simp [hr]
theorem R32_pad : R32 [padC] := fun i => by rcases i with _ | i <;> simp
namespace ScG
variable {s : Sc}
theorem lt (h : ScG s) : s.row.toNat < s.rows.length := by have := h.len; have := h.r0; have := h.rh; omega
theorem at_ (h : ScG s) : RwG s.w s.cur := h.rw _ (getMem _ h.lt)
theorem put (h : ScG s) {r : Rw} (hr : RwG s.w r) : ScG (s.put r) :=
  ⟨h.w2, h.w3, h.h1, h.h2, by show ((s.rows.set _ _).length : Int) = _; rw [List.length_set]; exact h.len, fun x hx => by
    rcases List.mem_or_eq_of_mem_set hx with hx | rfl
    · exact h.rw x hx
    · exact hr, h.r0, h.rh, h.c0, h.cw, h.a0, h.a1⟩
theorem col (h : ScG s) {c : Int} (h0 : 0 ≤ c) (h1 : c ≤ s.w) : ScG { s with col := c } := ⟨h.w2, h.w3, h.h1, h.h2, h.len, h.rw, h.r0, h.rh, h0, h1, h.a0, h.a1⟩
theorem dn (h : ScG s) : ScG s.dn.1 ∧ (∀ r ∈ s.dn.2, RwG s.w r) ∧ s.dn.1.w = s.w ∧ s.dn.1.h = s.h ∧ s.dn.1.attr = s.attr ∧ s.dn.1.col = s.col := by
  unfold Sc.dn
  split
  · rename_i hr
    exact ⟨⟨h.w2, h.w3, h.h1, h.h2, h.len, h.rw, by have := h.r0; show 0 ≤ s.row + 1; omega, hr, h.c0, h.cw, h.a0, h.a1⟩, by simp, rfl, rfl, rfl, rfl⟩
  · refine ⟨⟨h.w2, h.w3, h.h1, h.h2, ?_, ?_, h.r0, h.rh, h.c0, h.cw, h.a0, h.a1⟩, ?_, rfl, rfl, rfl, rfl⟩
    · show (((s.rows.tail ++ _).length : Nat) : Int) = s.h
      rw [List.length_append, List.length_tail]
      have := h.len; have := h.h1
      simp only [List.length_cons, List.length_nil]; omega
    · intro x hx
      rcases List.mem_append.1 hx with hx | hx
      · exact h.rw x (List.mem_of_mem_tail hx)
      · rw [List.mem_singleton.1 hx]
        show RwG s.w _
        exact RwG.blank (by have := h.w2; omega) h.w3
    · intro x hx
      rw [List.mem_singleton.1 hx]
      exact h.rw _ (getMem _ (by have := h.len; have := h.h1; omega))
theorem wrapped (h : ScG s) : ScG s.wrapped.1 ∧ (∀ r ∈ s.wrapped.2, RwG s.w r) ∧ s.wrapped.1.w = s.w ∧ s.wrapped.1.h = s.h ∧ s.wrapped.1.attr = s.attr ∧ s.wrapped.1.col = 0 := by
  have key : ∀ t : Sc, ScG t → t.w = s.w → t.h = s.h → t.attr = s.attr → ScG ({ (t.put (t.cur.1, true)).dn.1 with col := 0 } : Sc) ∧ (∀ r ∈ (t.put (t.cur.1, true)).dn.2, RwG s.w r) ∧ (t.put (t.cur.1, true)).dn.1.w = s.w ∧ (t.put (t.cur.1, true)).dn.1.h = s.h ∧ (t.put (t.cur.1, true)).dn.1.attr = s.attr := by
    intro t ht e1 e2 e3
    obtain ⟨h1, h2, h3, h4, h5, _⟩ := (ht.put (ht.at_.wr true)).dn
    exact ⟨h1.col (Int.le_refl _) (by have := h1.w2; omega), fun r hr => e1 ▸ h2 r hr, h3.trans e1, h4.trans e2, h5.trans e3⟩
  unfold Sc.wrapped
  split
  · obtain ⟨h1, h2, h3, h4, h5⟩ := key _ (h.put (h.at_.set R32_pad s.col)) rfl rfl rfl
    exact ⟨h1, h2, h3, h4, h5, rfl⟩
  · obtain ⟨h1, h2, h3, h4, h5⟩ := key s h rfl rfl rfl
    exact ⟨h1, h2, h3, h4, h5, rfl⟩
theorem signs (h : ScG s) {l : List Ce} (hl : R32 l) (hw : s.col + l.length ≤ s.w) : ScG (s.signs l) :=
  (h.put (h.at_.set hl s.col)).col (by have := h.c0; omega) hw
theorem ofC_le2 (r a : Int) : (ofC r a).length ≤ 2 := by unfold ofC; split <;> (try split) <;> simp
theorem pr (h : ScG s) (r : Int) (hr : -2147483648 ≤ r ∧ r ≤ 2147483647) : ScG (s.pr r).1 ∧ (∀ x ∈ (s.pr r).2, RwG s.w x) ∧ (s.pr r).1.w = s.w ∧ (s.pr r).1.h = s.h := by
  unfold Sc.pr
  split
  · exact ⟨h, by simp, rfl, rfl⟩
  · split
    · rename_i hw
      exact ⟨h.signs (R32_ofC r _ hr) hw, by simp, rfl, rfl⟩
    · obtain ⟨h1, h2, h3, h4, h5, h6⟩ := h.wrapped
      exact ⟨h1.signs (R32_ofC r _ hr) (by have := ofC_le2 r s.attr; have := h.w2; rw [h6, h3]; omega), h2, h3, h4⟩
theorem ctl (h : ScG s) (r : Int) : ScG (s.ctl r).1 ∧ (∀ x ∈ (s.ctl r).2, RwG s.w x) ∧ (s.ctl r).1.w = s.w ∧ (s.ctl r).1.h = s.h := by
  have w2 := h.w2; have c0 := h.c0; have cw := h.cw
  unfold Sc.ctl
  split
  · exact ⟨h.col (by omega) (by omega), by simp, rfl, rfl⟩
  split
  · exact ⟨h.col (by omega) (by omega), by simp, rfl, rfl⟩
  split
  · obtain ⟨h1, h2, h3, h4, _⟩ := (h.col (c := min s.col (s.w - 1)) (by omega) (by omega)).dn
    exact ⟨h1, h2, h3, h4⟩
  split
  · exact ⟨h.col (by omega) (by omega), by simp, rfl, rfl⟩
  · exact ⟨h, by simp, rfl, rfl⟩
theorem clr1G {w : Int} {r : Rw} (h : RwG w r) (how : Int) (all : Bool) (w' row col : Int) (i : Nat) : RwG w (clr1 how all w' row col i r) := by
  unfold clr1
  repeat' split
  all_goals first | exact h.era _ _ | exact h
theorem clr (h : ScG s) (how : Int) (all : Bool) : ScG (s.clr how all) :=
  ⟨h.w2, h.w3, h.h1, h.h2, by show ((((List.range s.rows.length).map _).length : Nat) : Int) = s.h; rw [List.length_map, List.length_range]; exact h.len, fun x hx => by
    obtain ⟨i, hi, rfl⟩ := List.mem_map.1 hx
    exact clr1G (h.rw _ (getMem _ (List.mem_range.1 hi))) _ _ _ _ _ _, h.r0, h.rh, h.c0, h.cw, h.a0, h.a1⟩
theorem argI_pos {a : List Int} (ha : ∀ x ∈ a, 0 ≤ x) (i : Nat) : 1 ≤ argI a i 1 := by
  unfold argI
  split
  · exact Int.le_refl _
  · rename_i hne
    rcases Nat.lt_or_ge i a.length with hi | hi
    · have := ha _ (getMem 0 hi); omega
    · exact absurd (by simp [List.getD_eq_getElem?_getD, List.getElem?_eq_none hi]) hne
theorem mov (h : ScG s) (r : Int) {a : List Int} (ha : ∀ x ∈ a, 0 ≤ x) (hc : s.col < s.w) : ScG (s.mov r a) ∧ (s.mov r a).rows = s.rows ∧ (s.mov r a).w = s.w ∧ (s.mov r a).h = s.h := by
  have w2 := h.w2; have c0 := h.c0; have cw := h.cw; have r0 := h.r0; have rh := h.rh
  have p0 := argI_pos ha 0; have p1 := argI_pos ha 1
  have key : ∀ row col : Int, 0 ≤ row → row < s.h → 0 ≤ col → col ≤ s.w → ScG { s with row := row, col := col } := fun row col h0 h1 h2 h3 => ⟨h.w2, h.w3, h.h1, h.h2, h.len, h.rw, h0, h1, h2, h3, h.a0, h.a1⟩
  unfold Sc.mov
  split
  · exact ⟨key _ _ (by omega) (by omega) c0 cw, rfl, rfl, rfl⟩
  split
  · exact ⟨key _ _ (by omega) (by omega) c0 cw, rfl, rfl, rfl⟩
  split
  · exact ⟨key _ _ r0 rh (by omega) (by omega), rfl, rfl, rfl⟩
  split
  · exact ⟨key _ _ r0 rh (by omega) (by omega), rfl, rfl, rfl⟩
  split
  · exact ⟨key _ _ (by omega) (by omega) (by omega) (by omega), rfl, rfl, rfl⟩
  · exact ⟨h, rfl, rfl, rfl⟩
theorem attrs (a : List Int) : 0 ≤ a.foldl (fun _ n => n % 256) (0 : Int) ∧ a.foldl (fun _ n => n % 256) (0 : Int) ≤ 255 := by
  have : ∀ (a : List Int) (x : Int), 0 ≤ x ∧ x ≤ 255 → 0 ≤ a.foldl (fun _ n => n % 256) x ∧ a.foldl (fun _ n => n % 256) x ≤ 255 := by
    intro a
    induction a with
    | nil => intro x h; exact h
    | cons b a ih => intro x _; exact ih (b % 256) (by omega)
  exact this a 0 (by omega)
theorem csi (h : ScG s) (r : Int) {a : List Int} (ha : ∀ x ∈ a, 0 ≤ x) : ScG (s.csi r a) ∧ (s.csi r a).w = s.w ∧ (s.csi r a).h = s.h := by
  have w2 := h.w2; have c0 := h.c0; have cw := h.cw
  have ht := h.col (c := min s.col (s.w - 1)) (by omega) (by omega)
  unfold Sc.csi
  split
  · dsimp only
    split
    · exact ⟨ht.clr _ _, rfl, rfl⟩
    split
    · exact ⟨ht.clr _ _, rfl, rfl⟩
    split
    · exact ⟨⟨ht.w2, ht.w3, ht.h1, ht.h2, ht.len, ht.rw, ht.r0, ht.rh, ht.c0, ht.cw, (attrs a).1, (attrs a).2⟩, rfl, rfl⟩
    · obtain ⟨h1, _, h2, h3⟩ := ht.mov r ha (by show min s.col (s.w - 1) < s.w; omega)
      exact ⟨h1, h2, h3⟩
  · exact ⟨h, rfl, rfl⟩
theorem ev (h : ScG s) (k r : Int) (hr : -2147483648 ≤ r ∧ r ≤ 2147483647) {a : List Int} (ha : ∀ x ∈ a, 0 ≤ x) : ScG (s.ev k r a).1 ∧ (∀ x ∈ (s.ev k r a).2, RwG s.w x) ∧ (s.ev k r a).1.w = s.w ∧ (s.ev k r a).1.h = s.h := by
  unfold Sc.ev
  split
  · exact h.pr r hr
  split
  · exact h.ctl r
  split
  · obtain ⟨h1, h2, h3⟩ := h.csi r ha
    exact ⟨h1, by simp, h2, h3⟩
  · exact ⟨h, by simp, rfl, rfl⟩
end ScG

/-- A new one. -/
def Sc.new (w h : Int) : Sc := ⟨w, h, List.replicate h.toNat (blanks w.toNat, false), 0, 0, 0⟩
theorem ScG.new {w h : Int} (w2 : 2 ≤ w) (w3 : w ≤ 300) (h1 : 1 ≤ h) (h2 : h ≤ 100) : ScG (Sc.new w h) :=
  ⟨w2, w3, h1, h2, by show (((List.replicate h.toNat _).length : Nat) : Int) = h; rw [List.length_replicate]; omega, fun x hx => by
    rw [List.eq_of_mem_replicate hx]; exact RwG.blank (by show 0 ≤ w; omega) w3, Int.le_refl _, by show 0 < h; omega, Int.le_refl _, by show 0 ≤ w; omega, by show (0 : Int) ≤ 0; omega, by show (0 : Int) ≤ 255; omega⟩
end Go.Am
