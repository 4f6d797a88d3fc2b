/- Parts of the proof: RLinP RLinS RLinT RLinQ. -/
import Derived.Test.YtmcimfmibpfnhaaGreatRRowD
import Derived.Test.YtmcimfmibpfnhaaGreatRRowP
set_option linter.all false
set_option linter.deprecated false

namespace Go.Am
variable {oc : Orc} [OrcI oc]
set_option maxRecDepth 8000
set_option maxHeartbeats 1000000
/-! Cells. -/
def isSig (c : Ce) : Bool := decide (c.w ≠ 0 ∧ c ≠ padC)
def sigL (l : List Ce) : List Ce := l.filter isSig
def lineC (c : Ce) : Prop := mayC c.r c.w c.a ∧ c.w ≠ 0 ∧ c ≠ padC
instance (c : Ce) : Decidable (lineC c) := inferInstanceAs (Decidable (_ ∧ _))
def lineG (l : List Ce) : Prop := ∀ c ∈ l, lineC c
instance (l : List Ce) : Decidable (lineG l) := inferInstanceAs (Decidable (∀ c ∈ l, lineC c))

theorem lineC.w {c : Ce} (h : lineC c) : c.w = 1 ∨ c.w = 2 := by
  obtain ⟨⟨_, h1⟩, h2, h3⟩ := h
  rcases h1 with ⟨a, b, d⟩ | ⟨a, _⟩ | ⟨a, _⟩
  · exact absurd (Ce.eqv.2 ⟨a, b, d⟩) h3
  · exact absurd a h2
  · exact a
theorem sigL_app (a b : List Ce) : sigL (a ++ b) = sigL a ++ sigL b := List.filter_append ..
/-! Trimmed. -/
/-! Rows joined. -/
def sndR (r : Rw) : Rw := if rowG r.1 then r else ([], false)
def sigR (r : Rw) : List Ce := sigL (sndR r).1
def joinG : List Ce → List Rw → List (List Ce)
  | _, [] => []
  | acc, r :: rs => if (sndR r).2 = true ∧ rs ≠ [] then joinG (acc ++ sigR r) rs else trimL (acc ++ sigR r) :: joinG [] rs
def joinL (rows : List Rw) : List (List Ce) := joinG [] rows
theorem joinG_nil (acc : List Ce) : joinG acc [] = [] := rfl
theorem joinG_wrap {acc : List Ce} {r : Rw} {rs : List Rw} (h : (sndR r).2 = true) (h2 : rs ≠ []) : joinG acc (r :: rs) = joinG (acc ++ sigR r) rs := if_pos ⟨h, h2⟩
theorem joinG_end {acc : List Ce} {r : Rw} {rs : List Rw} (h : ¬ ((sndR r).2 = true ∧ rs ≠ [])) : joinG acc (r :: rs) = trimL (acc ++ sigR r) :: joinG [] rs := if_neg h
/-! Lines laid out. -/
def mayL (l : List Ce) (w : Int) : Prop := 2 ≤ w ∧ w ≤ 300 ∧ lineG l
instance (l : List Ce) (w : Int) : Decidable (mayL l w) := inferInstanceAs (Decidable (_ ∧ _))
theorem sndR_ok {r : Rw} (h : rowG r.1) : sndR r = r := if_pos h
end Go.Am

namespace Go.Am
variable {oc : Orc} [OrcI oc]
set_option maxRecDepth 8000
set_option maxHeartbeats 1000000

/-- Of a row: its line, and how many of the line's cells stand ahead of it. -/
def ofF : Nat × Nat → List Rw → Nat × Nat
  | p, [] => p
  | p, r :: rs => ofF (if (sndR r).2 = true then (p.1, p.2 + (sigR r).length) else (p.1 + 1, 0)) rs
def ofN (rows : List Rw) (i : Nat) : Nat × Nat := ofF (0, 0) (rows.take i)
theorem ofF_app (p : Nat × Nat) (a b : List Rw) : ofF p (a ++ b) = ofF (ofF p a) b := by
  induction a generalizing p with
  | nil => rfl
  | cons r rs ih => exact ih _
theorem ofN_succ {rows : List Rw} {i : Nat} (h : i < rows.length) : ofN rows (i + 1) = (if (sndR (rows.getD i noRw)).2 = true then ((ofN rows i).1, (ofN rows i).2 + (sigR (rows.getD i noRw)).length) else ((ofN rows i).1 + 1, 0)) := by
  unfold ofN
  rw [List.take_add_one, List.getElem?_eq_getElem h, ofF_app, List.getD_eq_getElem?_getD, List.getElem?_eq_getElem h]
  rfl

/-! Spots. -/
/-! Places. -/
/-! Rows joined, as the document says. -/
def rawF : List (List Ce) × Bool → List Rw → List (List Ce) × Bool
  | p, [] => p
  | p, r :: rs => rawF ((if p.2 = true then p.1.dropLast ++ [p.1.getLastD [] ++ sigR r] else p.1 ++ [sigR r]), (sndR r).2) rs
theorem rawF_app (p : List (List Ce) × Bool) (a b : List Rw) : rawF p (a ++ b) = rawF (rawF p a) b := by
  induction a generalizing p with
  | nil => rfl
  | cons r rs ih => exact ih _
theorem rawF_join (rows : List Rw) : (∀ out, ((rawF (out, false) rows).1).map trimL = out.map trimL ++ joinL rows) ∧ ∀ out acc, ((rawF (out ++ [acc], true) rows).1).map trimL = out.map trimL ++ (if rows = [] then [trimL acc] else joinG acc rows) := by
  induction rows with
  | nil =>
    refine ⟨fun out => ?_, fun out acc => ?_⟩
    · show out.map trimL = out.map trimL ++ []
      rw [List.append_nil]
    · show (out ++ [acc]).map trimL = _
      rw [List.map_append]; rfl
  | cons r rs ih =>
    obtain ⟨ih1, ih2⟩ := ih
    have step : ∀ (out : List (List Ce)) (l : List Ce), ((rawF (out ++ [l], (sndR r).2) rs).1).map trimL = out.map trimL ++ (if (sndR r).2 = true ∧ rs ≠ [] then joinG l rs else trimL l :: joinL rs) := fun out l => by
      cases hw : (sndR r).2 with
      | false =>
        rw [ih1, List.map_append, List.append_assoc, if_neg (fun z => by cases z.1)]; rfl
      | true =>
        rw [ih2]
        by_cases hr : rs = []
        · subst hr; rw [if_pos rfl, if_neg (fun z => z.2 rfl)]; rfl
        · rw [if_neg hr, if_pos ⟨rfl, hr⟩]
    refine ⟨fun out => ?_, fun out acc => ?_⟩
    · show ((rawF (out ++ [sigR r], (sndR r).2) rs).1).map trimL = _
      rw [step]
      rfl
    · show ((rawF ((out ++ [acc]).dropLast ++ [(out ++ [acc]).getLastD [] ++ sigR r], (sndR r).2) rs).1).map trimL = _
      rw [List.dropLast_concat, List.getLastD_concat, step, if_neg (List.cons_ne_nil _ _)]
      rfl
theorem raw_join (rows : List Rw) : ((rawF ([], false) rows).1).map trimL = joinL rows := (rawF_join rows).1 []
theorem raw_of (rows : List Rw) (i : Nat) (h : i ≤ rows.length) : (ofN rows i).1 + (if (rawF ([], false) (rows.take i)).2 = true then 1 else 0) = (rawF ([], false) (rows.take i)).1.length := by
  induction i with
  | zero => rfl
  | succ i ih =>
    have hlt : i < rows.length := by omega
    have ih' := ih (by omega)
    have e : rows.take (i + 1) = rows.take i ++ [rows.getD i noRw] := by
      rw [List.take_add_one, List.getElem?_eq_getElem hlt, List.getD_eq_getElem?_getD, List.getElem?_eq_getElem hlt]; rfl
    rw [ofN_succ hlt, e, rawF_app]
    generalize rawF ([], false) (rows.take i) = p at *
    obtain ⟨out, op⟩ := p
    dsimp only at ih'
    show _ = (if op = true then out.dropLast ++ [out.getLastD [] ++ sigR (rows.getD i noRw)] else out ++ [sigR (rows.getD i noRw)]).length
    have e2 : (rawF (out, op) [rows.getD i noRw]).2 = (sndR (rows.getD i noRw)).2 := rfl
    rw [e2]
    cases op with
    | true =>
      rw [if_pos rfl] at ih'
      rw [if_pos rfl, List.length_append, List.length_dropLast]
      by_cases hw : (sndR (rows.getD i noRw)).2 = true
      · rw [if_pos hw, if_pos hw]; show (ofN rows i).1 + 1 = out.length - 1 + 1; omega
      · rw [if_neg hw, if_neg hw]; show (ofN rows i).1 + 1 + 0 = out.length - 1 + 1; omega
    | false =>
      rw [if_neg (by decide)] at ih'
      rw [if_neg (Bool.false_ne_true), List.length_append]
      by_cases hw : (sndR (rows.getD i noRw)).2 = true
      · rw [if_pos hw, if_pos hw]; show (ofN rows i).1 + 1 = out.length + 1; omega
      · rw [if_neg hw, if_neg hw]; show (ofN rows i).1 + 1 + 0 = out.length + 1; omega
end Go.Am

namespace Go.Am
variable {oc : Orc} [OrcI oc]
set_option maxRecDepth 8000
set_option maxHeartbeats 1000000
/-! How many rows. -/
end Go.Am

namespace Go.Am
variable {oc : Orc} [OrcI oc]
open Go.Proofs
set_option maxRecDepth 8000
set_option maxHeartbeats 4000000
end Go.Am
