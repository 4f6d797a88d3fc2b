/- What the abstract machine plans is what the model does: copy; all primitive operations together. -/
import Derived.Test.YtoeemmlfcnokiaaGreatAmOps10
set_option linter.all false
set_option linter.deprecated false
namespace Go.Am

theorem SR.first {P : Program} {C : Ctx} {es : List (List AV)} {v : Value} {sz size : Nat} (h : SR C es v sz) (hs : es = [] ∨ sz = size) {m : Nat} (hm : m ≤ es.length) :
    ∃ news, (Builtin.firstCells size m v).run P C.w = .ok news.toArray C.w ∧ (∀ u ∈ news, u.oneCell' = true) ∧ LR C (es.take m) size news := by
  obtain ⟨a, cap, vs, rfl, _, _, hlr, h1, hc⟩ := h.vals
  rcases hs with rfl | rfl
  · have : m = 0 := by simpa using hm
    subst this
    refine ⟨[], ?_, by simp, ⟨by simp, fun i hi => by simp at hi, fun i j hi => by simp at hi⟩⟩
    cases a <;> simp [Builtin.firstCells, loadCells, loadCellsFrom]
  · have hl : (vs.take (m * sz)).length = m * sz := by
      rw [List.length_take, hlr.1]
      exact Nat.min_eq_left (Nat.mul_le_mul_right _ hm)
    have hlt : (es.take m).length = m := by simp [hm]
    refine ⟨vs.take (m * sz), ?_, fun u hu => h1 u (List.mem_of_mem_take hu), ⟨by rw [hl, hlt], fun i hi => ?_, fun i j hi hj => ?_⟩⟩
    · by_cases hne : es = []
      · subst hne
        have : m = 0 := by simpa using hm
        subst this
        cases a <;> simp [Builtin.firstCells, loadCells, loadCellsFrom]
      · obtain ⟨b, o, rfl, hcell⟩ := hc hne
        exact run_firstCells_some C.w sz m ⟨b, o, none⟩ es.length cap _ hl (fun j u hj => by
          rw [addr_add]
          refine hcell j u ?_
          rw [List.getElem?_take] at hj
          split at hj
          · exact hj
          · cases hj)
    · rw [hlt] at hi
      rw [getD_take, if_pos hi]
      exact hlr.2.1 i (by omega)
    · rw [hlt] at hi
      obtain ⟨c, a1, b1, c1⟩ := hlr.2.2 i j (by omega) hj
      refine ⟨c, ?_, b1, by rw [getD_take, if_pos hi]; exact c1⟩
      rw [List.getElem?_take, if_pos (idx_lt hi hj)]
      exact a1

theorem overE_length (es : List (List AV)) (off : Nat) (new : List (List AV)) (h : off + new.length ≤ es.length) : (overE es off new).length = es.length := by
  simp [overE]
  omega
theorem overE_get (es : List (List AV)) (off : Nat) (new : List (List AV)) (h : off + new.length ≤ es.length) (k : Nat) : (overE es off new).getD k [] = if off ≤ k ∧ k < off + new.length then new.getD (k - off) [] else es.getD k [] := by
  unfold overE
  rw [getD_append, getD_append, getD_take, getD_drop]
  simp only [List.length_append, List.length_take, Nat.min_eq_left (show off ≤ es.length by omega)]
  by_cases h1 : k < off
  · rw [if_pos (by omega), if_pos h1, if_pos h1, if_neg (by omega)]
  · by_cases h2 : k < off + new.length
    · rw [if_pos h2, if_neg h1, if_pos (by omega)]
    · rw [if_neg h2, if_neg (by omega)]
      congr 1
      omega

theorem ER.overE {C : Ctx} {es fs : List (List AV)} {sz o : Nat} {cs : Array Value} {us : List Value} (h : ER C es sz o cs) (hf : LR C fs sz us) {off : Nat} (ho : off + fs.length ≤ es.length) (hroom : o + es.length * sz ≤ cs.size) :
    ER C (overE es off fs) sz o (overV cs (o + off * sz) us) := by
  refine ⟨fun i hi => ?_, fun i j hi hj => ?_⟩
  · rw [overE_length _ _ _ ho] at hi
    rw [overE_get _ _ _ ho]
    split
    · exact hf.2.1 _ (by omega)
    · exact h.1 i hi
  · rw [overE_length _ _ _ ho] at hi
    have hlt : o + i * sz + j < cs.size := by have := idx_lt hi hj; omega
    rw [overV_get? _ _ _ _ hlt, overE_get _ _ _ ho]
    by_cases hc : off ≤ i ∧ i < off + fs.length
    · rw [if_pos hc]
      obtain ⟨v, a, b, c⟩ := hf.2.2 (i - off) j (by omega) hj
      have e1 : off * sz ≤ i * sz := Nat.mul_le_mul_right _ hc.1
      have e2 : (i + 1) * sz ≤ (off + fs.length) * sz := Nat.mul_le_mul_right _ (by omega)
      rw [Nat.add_mul, Nat.add_mul] at e2
      have e3 : (i - off) * sz = i * sz - off * sz := Nat.sub_mul ..
      have hin : o + off * sz ≤ o + i * sz + j ∧ o + i * sz + j < o + off * sz + us.length := by rw [hf.1]; omega
      rw [if_pos hin]
      refine ⟨v, ?_, b, c⟩
      rw [show o + i * sz + j - (o + off * sz) = (i - off) * sz + j by omega, List.getD_eq_getElem?_getD, a]
      rfl
    · rw [if_neg hc]
      have hnin : ¬ (o + off * sz ≤ o + i * sz + j ∧ o + i * sz + j < o + off * sz + us.length) := by
        rw [hf.1]
        intro hh
        rcases Nat.lt_or_ge i off with h1 | h1
        · have : (i + 1) * sz ≤ off * sz := Nat.mul_le_mul_right _ h1
          rw [Nat.add_mul] at this
          omega
        · have h2 : off + fs.length ≤ i := by omega
          have : (off + fs.length) * sz ≤ i * sz := Nat.mul_le_mul_right _ h2
          rw [Nat.add_mul] at this
          omega
      rw [if_neg hnin]
      obtain ⟨v, a, b, c⟩ := h.2 i j hi hj
      exact ⟨v, by rw [Array.getD_eq_getD_getElem?, a]; rfl, b, c⟩

section
variable {E : Env} {C : Ctx} {o : Oper} {ρ : Operand → AV} {ev : Operand → Value} {rd : List Nat} {k : List Blk → Option Eff} {bs : List Blk} {ef : Eff}

theorem ok_copy (g : Good C) (hρ : ∀ x, VR C (ρ x) (ev x)) {c : Call} (ho : o.op = .call c) (hc : c.callee = .builtin .copy) (hp : plan E o ρ = .prim rd k) (hbs : rd.mapM C.get = some bs) (hk : k bs = some ef) : EffOK E.P C o ev ef := by
  simp only [plan, ho, hc] at hp
  unfold builtinA at hp
  split at hp
  · rename_i heq _ _; cases heq
  · rename_i heq _ _; cases heq
  · rename_i heq _ _; cases heq
  · rename_i heq _ _; cases heq
  · rename_i heq _ _; cases heq
  · rename_i d x t t' _ ha ht
    obtain ⟨v, u, hvu, hd, hx⟩ := args_two hρ ha
    have hts := types_two ht
    unfold copyA at hp
    split at hp
    · rename_i elem n e off len hu
      split at hp
      · cases hp
      · rename_i size hsz
        have go : ∀ (b : Blk) (sz : Nat) (es : List (List AV)) (szs : Nat), C.get n = some b → SR C es u szs → (es = [] ∨ szs = sz) →
            (if b.ep = e ∧ b.it.isNone ∧ off + len ≤ b.es.length ∧ b.sz = size ∧ (es.isEmpty ∨ sz = size) then some (Eff.set n { b with es := overE b.es off (es.take (min es.length len)) } (.v (.int .i64 (min es.length len : Nat)))) else none) = some ef → EffOK E.P C o ev ef := by
          intro b sz es szs hg hsr hss he
          split at he
          · rename_i hcond
            obtain ⟨c1, c2, c3, c4, c5⟩ := hcond
            simp only [Option.some.injEq] at he
            subst he
            have hse : es = [] ∨ szs = size := by
              rcases c5 with h | h
              · exact .inl (by simpa using h)
              · rcases hss with h' | h'
                · exact .inl h'
                · exact .inr (h'.trans h)
            obtain ⟨a, cap, hv, hcap, hlc, hpa⟩ := hd.os_inv hg c1
            obtain ⟨arr, fr, r1, r2, r3, r4, r5, r6⟩ := row_of g hg (isNone_eq c2)
            let m := min es.length len
            have hm1 : m ≤ es.length := Nat.min_le_left _ _
            have hm2 : m ≤ len := Nat.min_le_right _ _
            obtain ⟨news, f1, f2, f3⟩ := hsr.first (P := E.P) hse hm1
            have htl : (es.take m).length = m := by simp [hm1]
            have hfl : off + (es.take m).length ≤ b.es.length := by omega
            have hroom : (C.β n).2.1 + b.es.length * b.sz ≤ arr.size := by have := Nat.mul_le_mul_right b.sz r4; omega
            have hnl : news.length = m * size := by rw [f3.1, htl]
            have er := r6.overE (by rw [c4]; exact f3) (off := off) hfl hroom
            have hin : (C.β n).2.1 + off * b.sz + news.length ≤ arr.size := by
              have : (off + m) * b.sz ≤ b.es.length * b.sz := Nat.mul_le_mul_right _ (by omega)
              rw [Nat.add_mul] at this
              rw [hnl, ← c4]
              omega
            have hlen : ∀ w', (Builtin.lenOf u).run E.P w' = .ok es.length w' := fun w' => by
              obtain ⟨a', b', o', cap', rfl, _⟩ := hsr
              rfl
            have fin : ∀ w', w'.heap = C.w.heap.setIfInBounds (C.β n).1 (.cells (overV arr ((C.β n).2.1 + off * b.sz) news) b.elem fr) → w'.os = C.w.os → w'.tape = C.w.tape → w'.output = C.w.output →
                (execOp ev o).run E.P C.w = .ok (.value (.int .i64 (m : Nat))) w' → EffOK E.P C o ev (.set n { b with es := overE b.es off (es.take m) } (.v (.int .i64 (m : Nat)))) := by
              intro w' w1 w2 w3 w4 hr nm _
              obtain ⟨le, gd⟩ := write_row g hg (isNone_eq c2) (w' := w') (overE b.es off (es.take m)) (overE_length _ _ _ hfl) (overV arr ((C.β n).2.1 + off * b.sz) news) fr w2 w3 w4 (by rw [overV_size]; exact r2) w1 (by rw [overV_size]; exact r3) r4 r5 er
              exact ⟨_, _, le, gd, rfl, rfl, .inl hr, .fr (.v rfl)⟩
            have hex : ∀ (base : Option Addr), v = .slice base len cap → (execOp ev o).run E.P C.w =
                (((match base with | some a => storeCells a news | none => pure () : Sem Unit)).run E.P C.w).andThen fun _ w' => .ok (.value (.int .i64 (m : Nat))) w' := by
              intro base hb
              rw [exec_builtin ho hc, hts, hvu, hb]
              have hmin : Nat.min es.length len = m := rfl
              cases base with
              | none => simp [builtin, Builtin.copy_, run_underlying hu, hlen, run_sizeOf' hsz, hmin, f1, goInt]
              | some ad =>
                simp [builtin, Builtin.copy_, run_underlying hu, hlen, run_sizeOf' hsz, hmin, f1, goInt]
                generalize (storeCells ad news).run E.P C.w = r
                cases r <;> rfl
            by_cases hm0 : m = 0
            · have hn0 : news = [] := List.eq_nil_of_length_eq_zero (by rw [hnl, hm0]; simp)
              refine fin C.w ?_ rfl rfl rfl ?_
              · rw [hn0]
                exact (set_self _ _ _ r1).symm
              · rw [hex a hv, hn0]
                cases a <;> rfl
            · have hpos : 0 < cap := by omega
              have hpa' := hpa hpos
              subst hpa'
              obtain ⟨w', hst, w1, w2, w3, w4⟩ := run_storeCells E.P (C.β n).1 ((C.β n).2.1 + off * b.sz) b.elem fr news 0 C.w arr r1 r2 (by simpa using hin) f2
              refine fin w' (by simpa using w1) w2 w3 w4 ?_
              rw [hex _ hv]
              simp only [hst, Result.andThen_ok]
          · cases he
        split at hp
        · rename_i m e' off' len'
          split at hp
          · rename_i hnm
            obtain ⟨rfl, rfl⟩ := prim_inj hp
            obtain ⟨b, hb, rfl⟩ := mapM_one hbs
            simp only at hk
            cases he : sliceElems b e' off' len' with
            | none => rw [he] at hk; cases hk
            | some es =>
              rw [he] at hk
              subst hnm
              exact go b b.sz es b.sz hb (os_sr g hx hb he).1 (.inr rfl) hk
          · obtain ⟨rfl, rfl⟩ := prim_inj hp
            obtain ⟨b, c', hb, hcm, rfl⟩ := mapM_two hbs
            simp only at hk
            cases he : sliceElems c' e' off' len' with
            | none => rw [he] at hk; cases hk
            | some es =>
              rw [he] at hk
              exact go b c'.sz es c'.sz hb (os_sr g hx hcm he).1 (.inr rfl) hk
        · rename_i sz new
          obtain ⟨rfl, rfl⟩ := prim_inj hp
          obtain ⟨b, hb, rfl⟩ := mapM_one hbs
          exact go b sz new sz hb hx.sl_inv.sl_sr.1 (.inr rfl) hk
        · obtain ⟨rfl, rfl⟩ := prim_inj hp
          obtain ⟨b, hb, rfl⟩ := mapM_one hbs
          exact go b 0 [] 0 hb (e0_sr hx 0) (.inl rfl) hk
        · obtain ⟨rfl, rfl⟩ := prim_inj hp
          obtain ⟨b, hb, rfl⟩ := mapM_one hbs
          exact go b 0 [] 0 hb (nil_sr hx 0) (.inl rfl) hk
        · cases hp
    · cases hp
  · rename_i heq; cases heq
  · rename_i heq; cases heq
  · cases hp

/-- ALL PRIMITIVE OPERATIONS. -/
theorem prim_ok (hE : EnvOK E) (g : Good C) (hρ : ∀ x, VR C (ρ x) (ev x)) (hp : plan E o ρ = .prim rd k) (hbs : rd.mapM C.get = some bs) (hk : k bs = some ef) : EffOK E.P C o ev ef := by
  cases ho : o.op with
  | move x => exact ok_move g hρ (.inl ho) (by simpa only [plan, ho] using hp) hk
  | assign x => exact ok_move g hρ (.inr ho) (by simpa only [plan, ho] using hp) hk
  | pick c a b => exact ok_pick g hρ ho hp hk
  | alloc t => exact ok_alloc g ho hp hk
  | box t x => exact ok_box g hρ ho hp hk
  | build t ps => exact ok_build g hρ ho hp hk
  | buildSlice t l ps => exact ok_buildSlice g hρ ho hp hk
  | load t a => exact ok_load g hρ ho hp hbs hk
  | store t a x => exact ok_store g hρ ho hp hbs hk
  | nilCheck x => exact ok_nilCheck g hρ ho hp hbs hk
  | binOp op t x y yt => exact ok_binOp hE g hρ ho hp hbs hk
  | unOp op t x => exact ok_unOp g hρ ho hp hk
  | convert s d x => exact ok_convert g hρ ho hp hbs hk
  | makeFunc f a b => exact ok_makeFunc g hρ ho hp hk
  | makeSlice t l c => exact ok_makeSlice g hρ ho hp hk
  | slice t x lo hi mx => exact ok_slice g hρ ho hp hbs hk
  | fieldAddr s x f => exact ok_fieldAddr g hρ ho hp hbs hk
  | field s x f => exact ok_field g hρ ho hp hk
  | indexAddr t x i => exact ok_indexAddr g hρ ho hp hbs hk
  | index t x i => exact ok_index g hρ ho hp hk
  | extract t i => exact ok_extract g hρ ho hp hk
  | range t x => exact ok_range g hρ ho hp hk
  | next it s =>
    cases s with
    | true => exact ok_next g hρ ho hp hbs hk
    | false => simp [plan, ho] at hp
  | call c =>
    cases hc : c.callee with
    | builtin b =>
      by_cases h1 : b = .append
      · subst h1; exact ok_append g hρ ho hc hp hbs hk
      · by_cases h2 : b = .copy
        · subst h2; exact ok_copy g hρ ho hc hp hbs hk
        · exact ok_len_cap g hρ ho hc ⟨h1, h2⟩ hp hbs hk
    | value f =>
      simp only [plan, ho, hc] at hp
      split at hp <;> cases hp
    | invoke r m => simp [plan, ho, hc] at hp
  | _ => simp [plan, ho] at hp

end
end Go.Am
