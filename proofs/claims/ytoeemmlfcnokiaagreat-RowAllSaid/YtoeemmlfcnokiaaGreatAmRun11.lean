/- A region that draws its order: the static side. -/
import Derived.Test.YtoeemmlfcnokiaaGreatAmRun10
set_option linter.all false
set_option linter.deprecated false
namespace Go.Am

theorem bit_eq (m i : Nat) : bit m i = m.testBit i := by
  have h : Nat.land (Nat.shiftRight m i) 1 = (m >>> i) % 2 := Nat.and_one_is_mod _
  unfold bit
  rw [h, Nat.testBit_eq_decide_div_mod_eq, Nat.shiftRight_eq_div_pow]
  rcases Nat.mod_two_eq_zero_or_one (m / 2 ^ i) with h | h <;> rw [h] <;> rfl

theorem runOps_seq {E : Env} {cf : CallF} {lo : Nat} {ops rest : List Oper} : ∀ {s s' : St} {trs : List Tr}, runOps E cf lo ops rest s = some (s', trs) →
    ∃ S : Nat → St, S 0 = s ∧ S rest.length = s' ∧ trs.length = rest.length ∧ ∀ (k : Nat) (o : Oper), rest[k]? = some o → ∃ tr, trs[k]? = some tr ∧ stepOp E cf lo ops o (S k) = some (S (k + 1), tr) := by
  induction rest with
  | nil =>
    intro s s' trs h
    simp only [runOps, Option.some.injEq, Prod.mk.injEq] at h
    obtain ⟨rfl, rfl⟩ := h
    exact ⟨fun _ => s, rfl, rfl, rfl, fun k o h => by simp at h⟩
  | cons o rest ih =>
    intro s s' trs h
    simp only [runOps] at h
    split at h
    · cases h
    rename_i s1 tr1 h1
    split at h
    · cases h
    rename_i s2 trs2 h2
    simp only [Option.some.injEq, Prod.mk.injEq] at h
    obtain ⟨rfl, rfl⟩ := h
    obtain ⟨S, e1, e2, e3, e4⟩ := ih h2
    refine ⟨fun k => match k with | 0 => s | k + 1 => S k, rfl, e2, by simp [e3], fun k o' hk => ?_⟩
    cases k with
    | zero => simp at hk; subst hk; exact ⟨tr1, rfl, by rw [h1, ← e1]⟩
    | succ k => exact e4 k o' (by simpa using hk)

theorem ahead1_ok (acc : List Nat) (n : Nat) (es : List Edge) : ∀ (s u i : Nat), (ahead1 acc n es s u).testBit i = true → s.testBit i = true ∨ ∃ e ∈ es, Region.binds .any e = true ∧ e.on < n ∧ (i = e.on ∨ (acc.getD (n - 1 - e.on) 0).testBit i = true) := by
  induction es with
  | nil => intro s u i h; exact .inl h
  | cons e r ih =>
    intro s u i h
    simp only [ahead1] at h
    split at h
    · rename_i hc
      rw [fNat_eq] at h
      simp only [Bool.and_eq_true, Nat.blt_eq] at hc
      rcases ih _ _ _ h with h | ⟨e', h1, h2⟩
      · have h' : (s ||| 2 ^ e.on ||| getR 0 acc (n - 1 - e.on)).testBit i = true := h
        simp only [Nat.testBit_or, Bool.or_eq_true, testBit_pow', decide_eq_true_eq, getR_eq] at h'
        rcases h' with (h' | h') | h'
        · exact .inl h'
        · exact .inr ⟨e, by simp, hc.1.1, hc.1.2, .inl h'⟩
        · exact .inr ⟨e, by simp, hc.1.1, hc.1.2, .inr h'⟩
      · exact .inr ⟨e', by simp [h1], h2⟩
    · rcases ih _ _ _ h with h | ⟨e', h1, h2⟩
      · exact .inl h
      · exact .inr ⟨e', by simp [h1], h2⟩

theorem aheads_ok (L : List Oper) : ∀ (acc : List Nat) (n : Nat), n = acc.length → (aheads L acc n).length = L.length ∧ ∀ (j : Nat) (o : Oper), L[j]? = some o → ∃ a, (aheads L acc n)[j]? = some a ∧
    ∀ i, a.testBit i = true → ∃ e ∈ o.after.toList, Region.binds .any e = true ∧ (i = e.on ∨ ((acc.reverse ++ aheads L acc n).getD e.on 0).testBit i = true) := by
  induction L with
  | nil => intro acc n _; exact ⟨rfl, fun j o h => by simp at h⟩
  | cons o rest ih =>
    intro acc n hn
    simp only [aheads, fNat_eq]
    obtain ⟨h1, h2⟩ := ih (ahead1 acc n o.after.toList 0 0 :: acc) (n + 1) (by simp [hn])
    refine ⟨by simp [h1], fun j o' hj => ?_⟩
    cases j with
    | zero =>
      simp only [List.getElem?_cons_zero, Option.some.injEq] at hj
      subst hj
      refine ⟨_, rfl, fun i hi => ?_⟩
      rcases ahead1_ok acc n _ _ _ i hi with h | ⟨e, e1, e2, e3, e4⟩
      · simp at h
      · refine ⟨e, e1, e2, e4.imp id fun h => ?_⟩
        rw [← h]
        congr 1
        simp only [List.getD_eq_getElem?_getD]
        rw [List.getElem?_append_left (by simp; omega), List.getElem?_reverse (by omega), ← hn]
    | succ j =>
      obtain ⟨a, h3, h4⟩ := h2 j o' (by simpa using hj)
      refine ⟨a, by simpa using h3, fun i hi => ?_⟩
      obtain ⟨e, e1, e2, e3⟩ := h4 i hi
      refine ⟨e, e1, e2, e3.imp id fun h => ?_⟩
      rw [← h]
      simp

theorem clash_triv_r {x y : Tr} (h : Nat.beq (Nat.add (Nat.add y.rd y.wr) y.all) 0 = true) : clash x y = false := by
  have h : y.rd + y.wr + y.all = 0 := Nat.eq_of_beq_eq_true h
  have h1 : y.rd = 0 := by omega
  have h2 : y.wr = 0 := by omega
  have h3 : y.all = 0 := by omega
  unfold clash
  rw [h1, h2, h3]
  have e1 : Nat.lor 0 0 = 0 := rfl
  have e2 : Nat.land x.wr 0 = 0 := Nat.and_zero _
  have e3 : Nat.land 0 x.rd = 0 := Nat.zero_and _
  rw [e1, e2, e3]
  simp [Nat.beq]
theorem clash_triv_l {x y : Tr} (h : Nat.beq (Nat.add (Nat.add x.rd x.wr) x.all) 0 = true) : clash x y = false := by
  have h : x.rd + x.wr + x.all = 0 := Nat.eq_of_beq_eq_true h
  have h1 : x.rd = 0 := by omega
  have h2 : x.wr = 0 := by omega
  have h3 : x.all = 0 := by omega
  unfold clash
  rw [h1, h2, h3]
  have e1 : ∀ z, Nat.land 0 z = 0 := Nat.zero_and
  have e3 : Nat.land y.wr 0 = 0 := Nat.and_zero _
  have e4 : Nat.lor 0 0 = 0 := rfl
  rw [e1, e3, e4]
  simp [Nat.beq]

def Tr.writes (t : Tr) (n : Nat) : Prop := t.wr.testBit n = true ∨ t.all = 2
theorem ne_zero_of_bit {m n : Nat} (h : m.testBit n = true) : m ≠ 0 := fun e => by subst e; simp at h
theorem beq_ff {m : Nat} (h : m ≠ 0) : Nat.beq m 0 = false := by cases m with | zero => exact absurd rfl h | succ m => rfl
theorem clash_of {x y : Tr} {n : Nat} (h : (x.writes n ∧ touches y n) ∨ (touches x n ∧ y.writes n)) : clash x y = true := by
  have big : ∀ {a : Tr}, touches a n → Nat.add (Nat.add a.rd a.wr) a.all ≠ 0 := fun h e => by
    have e' : _ + _ + _ = 0 := e
    rcases h with h | h | h
    · exact ne_zero_of_bit h (by omega)
    · exact ne_zero_of_bit h (by omega)
    · exact h (by omega)
  have hb : ∀ {a b c : Nat}, (a.testBit n = true ∧ (b.testBit n = true ∨ c.testBit n = true)) → Nat.land a (Nat.lor b c) ≠ 0 := fun {a b c} h e => by
    have e' : (a &&& (b ||| c)).testBit n = true := by rw [Nat.testBit_and, Nat.testBit_or, h.1]; rcases h.2 with h | h <;> simp [h]
    have e'' : a &&& (b ||| c) = 0 := e
    rw [e''] at e'
    simp at e'
  have lor_l : ∀ {a b : Nat}, a ≠ 0 → Nat.lor a b ≠ 0 := fun {a b} h e => by
    have e' : a ||| b = 0 := e
    exact h (Nat.or_eq_zero_iff.1 e').1
  have lor_r : ∀ {a b : Nat}, b ≠ 0 → Nat.lor a b ≠ 0 := fun {a b} h e => by
    have e' : a ||| b = 0 := e
    exact h (Nat.or_eq_zero_iff.1 e').2
  have sum : ∀ {a b : Nat}, (a ≠ 0 ∨ b ≠ 0) → Nat.add a b ≠ 0 := fun {a b} h e => by
    have e' : a + b = 0 := e
    omega
  unfold clash
  simp only [Bool.or_eq_true, Bool.and_eq_true, Bool.not_eq_true']
  rcases h with ⟨h1 | h1, h2⟩ | ⟨h1, h2 | h2⟩
  · rcases h2 with h2 | h2 | h2
    · exact .inl (beq_ff (lor_l (hb ⟨h1, .inl h2⟩)))
    · exact .inl (beq_ff (lor_l (hb ⟨h1, .inr h2⟩)))
    · exact .inr ⟨beq_ff (sum (.inr h2)), .inr ⟨beq_ff h2, beq_ff (ne_zero_of_bit h1)⟩⟩
  · exact .inr ⟨beq_ff (sum (.inl (by omega))), .inl (.inl (.inl ⟨by rw [h1]; rfl, beq_ff (big h2)⟩))⟩
  · rcases h1 with h1 | h1 | h1
    · refine .inl (beq_ff (lor_r fun e => ?_))
      have e' : (y.wr &&& x.rd).testBit n = true := by rw [Nat.testBit_and, h1, h2]; rfl
      have e'' : y.wr &&& x.rd = 0 := e
      rw [e''] at e'
      simp at e'
    · exact .inl (beq_ff (lor_l (hb ⟨h1, .inr h2⟩)))
    · exact .inr ⟨beq_ff (sum (.inl h1)), .inl (.inr ⟨beq_ff h1, beq_ff (ne_zero_of_bit h2)⟩)⟩
  · exact .inr ⟨beq_ff (sum (.inr (by omega))), .inl (.inl (.inr ⟨by rw [h2]; rfl, beq_ff (big h1)⟩))⟩

theorem okPairs_ok (xs : List Tr) : ∀ (as : List Nat) (i : Nat) (pre : List (Nat × Tr)), okPairs as xs i pre = true →
    ∀ (j : Nat) (y : Tr), xs[j]? = some y → ∃ a, as[j]? = some a ∧ (∀ p ∈ pre, a.testBit p.1 = true ∨ clash p.2 y = false) ∧ ∀ (k : Nat) (z : Tr), k < j → xs[k]? = some z → a.testBit (i + k) = true ∨ clash z y = false := by
  induction xs with
  | nil => intro as i pre _ j y h; simp at h
  | cons x xs ih =>
    intro as i pre h j y hj
    cases as with
    | nil => simp [okPairs] at h
    | cons a as =>
      simp only [okPairs, fNat_eq] at h
      split at h
      · rename_i htriv
        cases j with
        | zero =>
          simp only [List.getElem?_cons_zero, Option.some.injEq] at hj
          subst hj
          exact ⟨a, rfl, fun p _ => .inr (clash_triv_r htriv), fun k z hk => by omega⟩
        | succ j =>
          obtain ⟨a', h1, h2, h3⟩ := ih as (i + 1) pre h j y (by simpa using hj)
          refine ⟨a', by simpa using h1, h2, fun k z hk hz => ?_⟩
          cases k with
          | zero =>
            simp only [List.getElem?_cons_zero, Option.some.injEq] at hz
            subst hz
            exact .inr (clash_triv_l htriv)
          | succ k => rw [show i + (k + 1) = i + 1 + k by omega]; exact h3 k z (by omega) (by simpa using hz)
      · split at h
        · rename_i hall
          have hall' : ∀ p ∈ pre, a.testBit p.1 = true ∨ clash p.2 x = false := fun p hp => by
            have := List.all_eq_true.1 hall p hp
            simpa [bit_eq] using this
          cases j with
          | zero =>
            simp only [List.getElem?_cons_zero, Option.some.injEq] at hj
            subst hj
            exact ⟨a, rfl, hall', fun k z hk => by omega⟩
          | succ j =>
            obtain ⟨a', h1, h2, h3⟩ := ih as (i + 1) ((i, x) :: pre) h j y (by simpa using hj)
            refine ⟨a', by simpa using h1, fun p hp => h2 p (by simp [hp]), fun k z hk hz => ?_⟩
            cases k with
            | zero =>
              simp only [List.getElem?_cons_zero, Option.some.injEq] at hz
              subst hz
              exact h2 (i, x) (by simp)
            | succ k => rw [show i + (k + 1) = i + 1 + k by omega]; exact h3 k z (by omega) (by simpa using hz)
        · cases h

theorem slotTrs_ok (ops L : List Oper) (j : Nat) (o : Oper) (h : L[j]? = some o) : (slotTrs ops L)[j]? = some ⟨bitsOf (namesOp ops o), bitsOf o.dst.toList, 0⟩ := by
  induction L generalizing j with
  | nil => simp at h
  | cons x r ih =>
    cases j with
    | zero => simp at h; subst h; simp [slotTrs, fNat_eq]
    | succ j => simpa [slotTrs] using ih j (by simpa using h)

theorem okBack_ok (L : List Oper) : ∀ (n : Nat), okBack L n = true → ∀ (j : Nat) (o : Oper), L[j]? = some o → ∀ e ∈ o.after.toList, Region.binds .any e = true → e.on < n + j := by
  induction L with
  | nil => intro n _ j o h; simp at h
  | cons x r ih =>
    intro n h j o hj e he hb
    simp only [okBack, fNat_eq, Bool.and_eq_true, List.all_eq_true, Bool.or_eq_true, Bool.not_eq_true', Nat.blt_eq] at h
    cases j with
    | zero =>
      simp at hj
      subst hj
      rcases h.1 e he with h' | h'
      · rw [hb] at h'; cases h'
      · omega
    | succ j =>
      have := ih (n + 1) h.2 j o (by simpa using hj) e he hb
      omega

end Go.Am
