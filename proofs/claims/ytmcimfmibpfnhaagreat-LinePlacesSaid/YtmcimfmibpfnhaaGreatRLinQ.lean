
/- The rows of a line: how many, and where its pads are. -/
import Derived.Test.YtmcimfmibpfnhaaGreatRLinP
set_option linter.all false
set_option linter.deprecated false
namespace Go.Am
variable {oc : Orc} [OrcI oc]
open Go.Proofs
set_option maxRecDepth 8000
set_option maxHeartbeats 4000000
def padsC (l : List Ce) : Nat := (l.filter fun c => decide (c = padC)).length
def padsR : List Rw → Nat
  | [] => 0
  | r :: rs => padsC r.1 + padsR rs
def wideL : List Ce → Nat
  | [] => 0
  | c :: l => c.w.toNat + wideL l
theorem padsC_app (a b : List Ce) : padsC (a ++ b) = padsC a + padsC b := by unfold padsC; rw [List.filter_append, List.length_append]
theorem padsR_app (a b : List Rw) : padsR (a ++ b) = padsR a + padsR b := by
  induction a with
  | nil => simp [padsR]
  | cons r a ih => rw [List.cons_append, padsR, padsR, ih]; omega
theorem wideL_app (a b : List Ce) : wideL (a ++ b) = wideL a + wideL b := by
  induction a with
  | nil => simp [wideL]
  | cons r a ih => rw [List.cons_append, wideL, wideL, ih]; omega
theorem padsC_ne {l : List Ce} (h : padsC l = 0) (k : Nat) (hk : k < l.length) : l.getD k zeroC ≠ padC := fun e => by
  have hm : l.getD k zeroC ∈ l := by rw [List.getD_eq_getElem?_getD, List.getElem?_eq_getElem hk]; exact List.getElem_mem hk
  have := List.length_eq_zero_iff.1 h
  have h2 : l.getD k zeroC ∈ l.filter fun c => decide (c = padC) := List.mem_filter.2 ⟨hm, decide_eq_true e⟩
  rw [this] at h2
  cases h2
theorem padsC_all {l : List Ce} (h : ∀ c ∈ l, c ≠ padC) : padsC l = 0 := by
  unfold padsC
  rw [List.filter_eq_nil_iff.2 fun c hc z => h c hc (of_decide_eq_true z)]; rfl
theorem padsC_blanks (n : Nat) : padsC (blanks n) = 0 := padsC_all fun c hc => by
  rw [List.eq_of_mem_replicate hc]; decide
theorem padsC_cells {c : Ce} (h : lineC c) : padsC (cellsC c) = 0 := padsC_all fun d hd => by
  unfold cellsC at hd
  have := h.2.2
  split at hd
  · rcases List.mem_cons.1 hd with rfl | hd
    · exact this
    · rw [List.mem_singleton.1 hd]; intro e
      have := congrArg Ce.w e
      exact absurd (show (0 : Int) = 1 from this) (by decide)
  · rw [List.mem_singleton.1 hd]; exact this
theorem padsC_one : padsC [padC] = 1 := by decide
theorem layQ_pads (w : Nat) (hw2 : 2 ≤ w) : ∀ (l cur : List Ce), lineG l → padsC cur = 0 → cur.length ≤ w → ∃ u, u ≤ w ∧ (1 ≤ cur.length + wideL l → 1 ≤ u) ∧ cur.length + wideL l + padsR (lay w cur l) = ((lay w cur l).length - 1) * w + u ∧ padsR (lay w cur l) + 1 ≤ (lay w cur l).length
  | [], cur, _, hp, hl => by
    refine ⟨cur.length, hl, fun h => h, ?_, ?_⟩
    · simp only [lay, padsR, padsC_app, hp, padsC_blanks, wideL, List.length_singleton]; omega
    · simp only [lay, padsR, padsC_app, hp, padsC_blanks, List.length_singleton]; omega
  | c :: l, cur, hg, hp, hl => by
    have hcc := hg c List.mem_cons_self
    have hgl : lineG l := fun x hx => hg x (List.mem_cons_of_mem _ hx)
    have hlen := cellsC_len' hcc
    have hcw := hcc.w
    have hpc := padsC_cells hcc
    unfold lay
    split
    · rename_i hgt
      obtain ⟨u, h1, h2, h3, h4⟩ := layQ_pads w hw2 l (cellsC c) hgl hpc (by omega)
      refine ⟨u, h1, fun _ => h2 (by omega), ?_, ?_⟩
      · obtain ⟨n, hn⟩ : ∃ n, (lay w (cellsC c) l).length = n + 1 := ⟨(lay w (cellsC c) l).length - 1, by omega⟩
        rw [hn, Nat.add_sub_cancel] at h3
        rw [List.length_cons, hn, Nat.add_sub_cancel, wideL, padsR, Nat.succ_mul]
        generalize n * w = nw at *
        dsimp only
        split
        · rw [padsC_app, hp, padsC_one]; omega
        · rw [hp]; omega
      · rw [List.length_cons, padsR]
        dsimp only
        split
        · rw [padsC_app, hp, padsC_one]; omega
        · rw [hp]; omega
    · obtain ⟨u, h1, h2, h3, h4⟩ := layQ_pads w hw2 l (cur ++ cellsC c) hgl (by rw [padsC_app, hp, hpc]) (by rw [List.length_append]; omega)
      rw [List.length_append] at h2 h3
      refine ⟨u, h1, fun _ => h2 (by omega), ?_, h4⟩
      rw [wideL, ← h3]; omega
theorem layQ_at (w : Nat) (hw2 : 2 ≤ w) : ∀ (l cur : List Ce), lineG l → padsC cur = 0 → cur.length ≤ w → ∀ r ∈ lay w cur l, ∀ k, k < r.1.length → r.1.getD k zeroC = padC → k = w - 1 ∧ r.2 = true
  | [], cur, _, hp, hl, r, hr, k, hk, hpk => by
    simp only [lay, List.mem_singleton] at hr
    subst hr
    exact absurd hpk (padsC_ne (by rw [padsC_app, hp, padsC_blanks]) k hk)
  | c :: l, cur, hg, hp, hl, r, hr, k, hk, hpk => by
    have hcc := hg c List.mem_cons_self
    have hgl : lineG l := fun x hx => hg x (List.mem_cons_of_mem _ hx)
    have hlen := cellsC_len' hcc
    have hcw := hcc.w
    have hpc := padsC_cells hcc
    unfold lay at hr
    split at hr
    · rename_i hgt
      rcases List.mem_cons.1 hr with rfl | hr
      · refine ⟨?_, rfl⟩
        dsimp only at hk hpk
        split at hk
        · rename_i hlt
          rw [if_pos hlt] at hpk
          rw [List.length_append] at hk
          change k < cur.length + 1 at hk
          by_cases hkc : k < cur.length
          · rw [List.getD_eq_getElem?_getD, List.getElem?_append_left hkc, ← List.getD_eq_getElem?_getD] at hpk
            exact absurd hpk (padsC_ne hp k hkc)
          · omega
        · rename_i hlt
          rw [if_neg hlt] at hpk
          exact absurd hpk (padsC_ne hp k hk)
      · exact layQ_at w hw2 l _ hgl hpc (by omega) r hr k hk hpk
    · exact layQ_at w hw2 l _ hgl (by rw [padsC_app, hp, hpc]) (by rw [List.length_append]; omega) r hr k hk hpk
theorem pads_take (l : List Ce) (k : Nat) (hk : k < l.length) : padsC (l.take (k + 1)) = padsC (l.take k) + if l.getD k zeroC = padC then 1 else 0 := by
  rw [List.take_add_one, List.getElem?_eq_getElem hk, padsC_app, List.getD_eq_getElem?_getD, List.getElem?_eq_getElem hk]
  show _ + padsC [l[k]] = _ + if l[k] = padC then 1 else 0
  unfold padsC
  by_cases h : l[k] = padC
  · simp [h]
  · simp [h]
theorem padsR_take (rs : List Rw) (k : Nat) (hk : k < rs.length) : padsR (rs.take (k + 1)) = padsR (rs.take k) + padsC (rs.getD k noRw).1 := by
  rw [List.take_add_one, List.getElem?_eq_getElem hk, padsR_app, List.getD_eq_getElem?_getD, List.getElem?_eq_getElem hk]
  rfl
theorem wideL_take (l : List Ce) (k : Nat) (hk : k < l.length) : wideL (l.take (k + 1)) = wideL (l.take k) + (l.getD k zeroC).w.toNat := by
  rw [List.take_add_one, List.getElem?_eq_getElem hk, wideL_app, List.getD_eq_getElem?_getD, List.getElem?_eq_getElem hk]
  rfl
theorem wideL_le {l : List Ce} (h : lineG l) (k : Nat) : wideL (l.take k) ≤ 2 * l.length := by
  induction l generalizing k with
  | nil => simp [wideL]
  | cons c l ih =>
    cases k with
    | zero => simp [wideL]
    | succ k =>
      have := ih (fun x hx => h x (List.mem_cons_of_mem _ hx)) k
      have := (h c List.mem_cons_self).w
      rw [List.take_succ_cons, wideL, List.length_cons]; omega
theorem padsC_le (l : List Ce) (k : Nat) : padsC (l.take k) ≤ padsC l := by
  have := padsC_app (l.take k) (l.drop k)
  rw [List.take_append_drop] at this; omega
theorem padsR_le (l : List Rw) (k : Nat) : padsR (l.take k) ≤ padsR l := by
  have := padsR_app (l.take k) (l.drop k)
  rw [List.take_append_drop] at this; omega

/-- As many rows as cells and pads need. -/
theorem layQ_count (w : Nat) (hw2 : 2 ≤ w) (l : List Ce) (hg : lineG l) : max (1 : Int) (((wideL l : Int) + padsR (lay w [] l) + w - 1).tdiv w) = (lay w [] l).length ∧ padsR (lay w [] l) < (lay w [] l).length ∧ 1 ≤ (lay w [] l).length := by
  obtain ⟨u, h1, h2, h3, h4⟩ := layQ_pads w hw2 l [] hg rfl (Nat.zero_le _)
  rw [List.length_nil, Nat.zero_add] at h2 h3
  refine ⟨?_, by omega, by omega⟩
  obtain ⟨n, hn⟩ : ∃ n, (lay w [] l).length = n + 1 := ⟨(lay w [] l).length - 1, by omega⟩
  rw [hn, Nat.add_sub_cancel] at h3
  rw [hn] at h4 ⊢
  clear hn
  generalize padsR (lay w [] l) = p at *
  generalize wideL l = q at *
  rw [Int.tdiv_eq_ediv_of_nonneg (by omega)]
  have e : (q : Int) + p + w - 1 = (u : Int) + w - 1 + n * w := by
    have := congrArg (fun x : Nat => (x : Int)) h3
    simp only [Int.natCast_add, Int.natCast_mul] at this
    omega
  rw [e, Int.add_mul_ediv_right _ _ (by omega)]
  by_cases hu : 1 ≤ u
  · have : ((u : Int) + w - 1) / w = 1 := by
      rw [show (u : Int) + w - 1 = (u - 1 : Int) + 1 * w by omega, Int.add_mul_ediv_right _ _ (by omega), Int.ediv_eq_zero_of_lt (by omega) (by omega)]; rfl
    rw [this]; omega
  · have hq : q = 0 := by omega
    have hu0 : u = 0 := by omega
    subst hq hu0
    have hn0 : n = 0 := by
      rcases Nat.eq_zero_or_pos n with h | h
      · exact h
      · exfalso
        have : n * 2 ≤ n * w := Nat.mul_le_mul_left _ hw2
        omega
    subst hn0
    have : (((0 : Nat) : Int) + w - 1) / w = 0 := Int.ediv_eq_zero_of_lt (by omega) (by omega)
    rw [this]; rfl
end Go.Am
