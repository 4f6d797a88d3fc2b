/- What a call hands back: frozen values; blocks that go over. -/
import Derived.Test.YtoeemmlfcnokiaaGreatAmRun1
set_option linter.all false
set_option linter.deprecated false
namespace Go.Am

theorem FR.weak {w : World} {av av' : Nat → Prop} (hk : ∀ b, av' b → av b) {x : AV} {v : Value} (h : FR w av x v) : FR w av' x v :=
  h.mono (fun b _ hn => ⟨rfl, fun h' => hn (hk b h')⟩) (Nat.le_refl _)

section
variable {C1 : Ctx} {av : Nat → Prop} {H : AHeap} {bad : Nat → Bool}

theorem frz_rel (g : Good C1) (hget : ∀ n, C1.get n = H.get n) (hav : ∀ b, av b → C1.av b) (hfree : ∀ n b, C1.get n = some b → bad n = false → ¬ av (C1.β n).1) (d : Nat) :
    ∀ {x : AV} {v : Value}, VR C1 x v → FR C1.w av (frz H bad d x) v := by
  induction d with
  | zero => intro x v _; exact .dead v
  | succ d ih =>
    intro x v h
    have one : ∀ (cs : List AV) (i : Nat), i < cs.length → (cs.map (frz H bad d)).getD i .dead = frz H bad d (cs.getD i .dead) := fun cs i hi => by
      simp [List.getD_eq_getElem?_getD, hi]
    cases x with
    | v x => obtain ⟨rfl, hp⟩ := h.v_inv; exact .v hp
    | sl sz es => exact h.sl_inv.weak hav
    | e0 => obtain ⟨a, rfl⟩ := h.e0_inv; exact .e0 a
    | fp cs => exact h.fp_inv.weak hav
    | agg cs =>
      obtain ⟨vs, rfl, hl, h1, hr⟩ := h.agg_inv
      exact .agg vs (by simpa using hl) (fun i hi => h1 i (by simpa using hi)) fun i hi => by
        rw [one cs i (by simpa using hi)]; exact ih (hr i (by simpa using hi))
    | tup cs =>
      obtain ⟨vs, rfl, hl, hr⟩ := h.tup_inv
      exact .tup vs (by simpa using hl) fun i hi => by
        rw [one cs i (by simpa using hi)]; exact ih (hr i (by simpa using hi))
    | fn f cs =>
      obtain ⟨vs, rfl, hl, hr⟩ := h.fn_inv
      exact .fn f vs (by simpa using hl) fun i hi => by
        rw [one cs i (by simpa using hi)]; exact ih (hr i (by simpa using hi))
    | yl k => exact .dead v
    | dead => exact .dead v
    | os n e off len =>
      simp only [frz]
      split
      · exact .dead v
      · rename_i hbad
        split
        · rename_i b hb
          split
          · rename_i hc
            obtain ⟨he, hit, hlen, hsz⟩ := hc
            have hg : C1.get n = some b := (hget n).trans hb
            obtain ⟨a, cap, rfl, hcap, hl, ha⟩ := h.os_inv hg he
            obtain ⟨cs, fr, h1, h2, h3, h4, h5, h6⟩ := row_of g hg (isNone_eq hit)
            have hL : (((b.es.drop off).take len).map fun c => c.map (frz H bad d)).length = len := by simp; omega
            have hrow : ∀ i, i < len → (((b.es.drop off).take len).map fun c => c.map (frz H bad d)).getD i [] = (b.es.getD (off + i) []).map (frz H bad d) := fun i hi => by
              simp [List.getD_eq_getElem?_getD, List.getElem?_take, hi]
              cases b.es[off + i]? <;> rfl
            have key := FR.sl (w := C1.w) (av := av) (sz := b.sz) (es := ((b.es.drop off).take len).map fun c => c.map (frz H bad d)) a (C1.β n).1 ((C1.β n).2.1 + off * b.sz) cap (fun i j => cs.getD ((C1.β n).2.1 + (off + i) * b.sz + j) undef)
              (fun hne => ?_) (by rw [hL]; exact hl) (by omega) (fun i hi => ?_) (fun i j hi hj => ?_) (fun i j hi hj => ?_) (fun i j hi hj => ?_)
            · rw [hL] at key; exact key
            · have : 0 < (((b.es.drop off).take len).map fun c => c.map (frz H bad d)).length := List.length_pos_iff.2 hne
              rw [hL] at this
              exact ⟨ha (by omega), hsz, hfree n b hg (by simpa using hbad)⟩
            · rw [hL] at hi
              rw [hrow i hi, List.length_map, h6.1 _ (by omega)]
            · rw [hL] at hi
              obtain ⟨c, e1, e2, e3⟩ := h6.2 (off + i) j (by omega) hj
              have e4 : cs.getD ((C1.β n).2.1 + (off + i) * b.sz + j) undef = c := by simp [Array.getD_eq_getD_getElem?, e1]
              rw [e4, cell_of_row C1.w _ _ cs b.elem fr h1, ← e1]
              congr 1
              rw [Nat.add_mul]
              omega
            · rw [hL] at hi
              obtain ⟨c, e1, e2, e3⟩ := h6.2 (off + i) j (by omega) hj
              simpa [Array.getD_eq_getD_getElem?, e1] using e2
            · rw [hL] at hi
              obtain ⟨c, e1, e2, e3⟩ := h6.2 (off + i) j (by omega) hj
              rw [hrow i hi, one _ _ (by rw [h6.1 _ (by omega)]; exact hj)]
              have e4 : cs.getD ((C1.β n).2.1 + (off + i) * b.sz + j) undef = c := by simp [Array.getD_eq_getD_getElem?, e1]
              rw [e4]
              exact ih e3
          · exact .dead v
        · exact .dead v
    | op n e i j =>
      simp only [frz]
      split
      · exact .dead v
      · rename_i hbad
        split
        · rename_i b hb
          split
          · rename_i hc
            obtain ⟨he, hit, hi, hj⟩ := hc
            have hg : C1.get n = some b := (hget n).trans hb
            have := h.op_inv hg he
            subst this
            obtain ⟨hl, hcell⟩ := owned_cells g hg hit hi (Nat.le_of_lt hj)
            refine .fp _ _ (fun m => (C1.w.cell? ⟨(C1.β n).1, (C1.β n).2.1 + i * b.sz + j + m, none⟩).getD undef) (hfree n b hg (by simpa using hbad)) (g.lt hg) (fun m hm => ?_) (fun m hm => ?_) fun m hm => ?_
            · rw [List.length_map] at hm
              obtain ⟨c, e1, e2, e3⟩ := hcell m hm
              rw [e1]; rfl
            · rw [List.length_map] at hm
              obtain ⟨c, e1, e2, e3⟩ := hcell m hm
              rw [e1]; exact e2
            · rw [List.length_map] at hm
              obtain ⟨c, e1, e2, e3⟩ := hcell m hm
              rw [e1, one _ _ hm]
              exact ih e3
          · exact .dead v
        · exact .dead v
end

theorem idxN_ok {T : List Nat} {n k i : Nat} (h : idxN T n i = some k) : i ≤ k ∧ T[k - i]? = some n := by
  induction T generalizing i with
  | nil => simp [idxN] at h
  | cons m r ih =>
    simp only [idxN] at h
    split at h
    · rename_i hm
      simp only [Option.some.injEq] at h
      subst h hm
      simp
    · obtain ⟨h1, h2⟩ := ih h
      refine ⟨by omega, ?_⟩
      rw [show k - i = (k - (i + 1)) + 1 by omega, List.getElem?_cons_succ]
      exact h2
theorem idxN_none {T : List Nat} {n i : Nat} (h : idxN T n i = none) : n ∉ T := by
  induction T generalizing i with
  | nil => simp
  | cons m r ih =>
    simp only [idxN] at h
    split at h
    · cases h
    · rename_i hm
      simp only [List.mem_cons, not_or]
      exact ⟨fun e => hm e.symm, ih h⟩
theorem nodupN_ok {T : List Nat} (h : nodupN T = true) : T.Nodup := by
  induction T with
  | nil => exact .nil
  | cons n r ih =>
    simp only [nodupN, Bool.and_eq_true, Bool.not_eq_true', List.any_eq_false, Nat.beq_eq_true_eq] at h
    refine List.nodup_cons.2 ⟨fun hm => ?_, ih h.2⟩
    have := h.1 n hm
    simp at this
theorem badN_ok {lo : Nat} {T : List Nat} {n : Nat} (h : badN lo T n = false) : lo ≤ n ∧ n ∉ T := by
  simp only [badN, Bool.or_eq_false_iff, List.any_eq_false, Nat.beq_eq_true_eq] at h
  refine ⟨?_, fun hm => ?_⟩
  · have := h.1
    rw [← Bool.not_eq_true, Nat.blt_eq] at this
    omega
  · have := h.2 n hm
    simp at this

end Go.Am
