/- What the abstract machine plans is what the model does: indexes, literals, iterators over strings, makes. -/
import Derived.Test.YtoeemmlfcnokiaaGreatAmOps3
set_option linter.all false
set_option linter.deprecated false
namespace Go.Am

/-- A value reads as a slice of elements. -/
def SR (C : Ctx) (es : List (List AV)) (v : Value) (sz : Nat) : Prop :=
  ∃ a b o cap, v = .slice a es.length cap ∧ es.length ≤ cap ∧ cap ≤ maxLen ∧ (es ≠ [] → a = some ⟨b, o, none⟩) ∧ (∀ i, i < es.length → (es.getD i []).length = sz) ∧
    ∀ i j, i < es.length → j < sz → ∃ c, C.w.cell? ⟨b, o + i * sz + j, none⟩ = some c ∧ c.oneCell' = true ∧ VR C ((es.getD i []).getD j .dead) c

theorem SR_empty {C : Ctx} (a : Option Addr) (cap sz : Nat) (h : cap ≤ maxLen) : SR C [] (.slice a 0 cap) sz :=
  ⟨a, 0, 0, cap, rfl, Nat.zero_le _, h, fun h => absurd rfl h, fun i hi => by simp at hi, fun i j hi => by simp at hi⟩

theorem FR.sl_sr {C : Ctx} {sz : Nat} {es : List (List AV)} {v : Value} (h : FR C.w C.av (.sl sz es) v) : SR C es v sz ∧ (es ≠ [] → 0 < sz) := by
  cases h with
  | sl a b o cap c ha hlen hcap hsz hc h1 hr =>
    exact ⟨⟨some a, b, o, cap, rfl, hlen, hcap, fun h => by rw [(ha h).1], hsz, fun i j hi hj => ⟨c i j, hc i j hi hj, h1 i j hi hj, .fr (hr i j hi hj)⟩⟩, fun h => (ha h).2.1⟩

theorem sliceElems_ok {b : Blk} {e off len : Nat} {es : List (List AV)} (h : sliceElems b e off len = some es) : b.ep = e ∧ off + len ≤ b.es.length ∧ b.it = none ∧ es = (b.es.drop off).take len := by
  unfold sliceElems at h
  split at h
  · rename_i hc
    exact ⟨hc.1, hc.2.1, isNone_eq hc.2.2, by simpa using h.symm⟩
  · cases h

theorem os_sr {C : Ctx} (g : Good C) {n e off len : Nat} {v : Value} (h : VR C (.os n e off len) v) {b : Blk} (hb : C.get n = some b) {es : List (List AV)} (he : sliceElems b e off len = some es) : SR C es v b.sz ∧ es.length = len := by
  obtain ⟨he1, he2, he3, rfl⟩ := sliceElems_ok he
  obtain ⟨a, cap, rfl, hc, hl, ha⟩ := h.os_inv hb he1
  obtain ⟨cs, fr, h1, h2, h3, h4, h5, h6⟩ := row_of g hb he3
  have hlen : ((b.es.drop off).take len).length = len := by simp; omega
  refine ⟨⟨some a, (C.β n).1, (C.β n).2.1 + off * b.sz, cap, by rw [hlen], by omega, by omega, fun hne => ?_, fun i hi => ?_, fun i j hi hj => ?_⟩, hlen⟩
  · have : 0 < ((b.es.drop off).take len).length := List.length_pos_iff.2 hne
    rw [ha (by omega)]
  · rw [hlen] at hi
    rw [getD_take, if_pos hi, getD_drop]
    exact h6.1 _ (by omega)
  · rw [hlen] at hi
    rw [getD_take, if_pos hi, getD_drop]
    obtain ⟨c, e1, e2, e3⟩ := h6.2 (off + i) j (by omega) hj
    refine ⟨c, ?_, e2, e3⟩
    rw [cell_of_row C.w _ _ cs b.elem fr h1, ← e1]
    congr 1
    rw [Nat.add_mul]
    omega

theorem nil_sr {C : Ctx} {v : Value} (h : VR C (.v (.slice none 0 0)) v) (sz : Nat) : SR C [] v sz := by
  rw [h.v_inv.1]
  exact SR_empty none 0 sz (by simp [maxLen])
theorem e0_sr {C : Ctx} {v : Value} (h : VR C .e0 v) (sz : Nat) : SR C [] v sz := by
  obtain ⟨a, rfl⟩ := h.e0_inv
  exact SR_empty (some a) 0 sz (by simp [maxLen])

theorem srd_ok {C : Ctx} (g : Good C) {x : AV} {kk : Nat → List (List AV) → Option Eff} {rd : List Nat} {k : List Blk → Option Eff} {bs : List Blk} {ef : Eff} (hp : srd x kk = .prim rd k) (hbs : rd.mapM C.get = some bs) (hk : k bs = some ef) {v : Value} (h : VR C x v) :
    ∃ es sz, kk sz es = some ef ∧ SR C es v sz := by
  unfold srd at hp
  split at hp
  · obtain ⟨rfl, rfl⟩ := prim_inj hp
    exact ⟨_, _, hk, h.sl_inv.sl_sr.1⟩
  · obtain ⟨rfl, rfl⟩ := prim_inj hp
    exact ⟨[], 0, hk, e0_sr h 0⟩
  · obtain ⟨rfl, rfl⟩ := prim_inj hp
    exact ⟨[], 0, hk, nil_sr h 0⟩
  · obtain ⟨rfl, rfl⟩ := prim_inj hp
    obtain ⟨b, hb, rfl⟩ := mapM_one hbs
    simp only at hk
    cases he : sliceElems b _ _ _ with
    | none => rw [he] at hk; cases hk
    | some es =>
      rw [he] at hk
      exact ⟨es, b.sz, hk, (os_sr g h hb he).1⟩
  · cases hp

section
variable {E : Env} {C : Ctx} {o : Oper} {ρ : Operand → AV} {ev : Operand → Value} {rd : List Nat} {k : List Blk → Option Eff} {bs : List Blk} {ef : Eff}

theorem getD_mem {α : Type} (l : List α) (i : Nat) (d : α) (h : i < l.length) : l.getD i d = l[i] := by simp [List.getD_eq_getElem?_getD, h]

theorem ok_indexAddr (g : Good C) (hρ : ∀ x, VR C (ρ x) (ev x)) {t : TypeId} {x ix : Operand} (ho : o.op = .indexAddr t x ix) (hp : plan E o ρ = .prim rd k) (hbs : rd.mapM C.get = some bs) (hk : k bs = some ef) : EffOK E.P C o ev ef := by
  simp only [plan, ho] at hp
  split at hp
  · rename_i elem ik i hu hi
    have hiv := (hi ▸ hρ ix).v_inv.1
    have hrun : ∀ (size len cap : Nat) (ad : Addr), infoSize E.P elem = some size → 0 ≤ i → i < (len : Int) → ev x = .slice (some ad) len cap → (execOp ev o).run E.P C.w = .ok (.value (.pointer (some (ad.add (i.toNat * size))))) C.w := by
      intro size len cap ad hs h0 h1 hv
      simp only [execOp, ho, hv, hiv, Instr.indexAt, Sem.run_bind, asIntOf, Sem.run_pure, Result.andThen_ok, run_underlying hu]
      rw [if_pos ⟨h0, h1⟩]
      simp [run_sizeOf' hs]
    split at hp
    · rename_i size sz es hs hx
      split at hp
      · rename_i hc
        obtain ⟨h0, h1, h2⟩ := hc
        obtain rfl := val_ok hp hk
        have hf := (hx ▸ hρ x).sl_inv
        generalize hv : ev x = u at hf
        cases hf with
        | sl a b o' cap c ha hlen hcap hsz hc h1' hr =>
          have hne : es ≠ [] := fun e => by subst e; simp at h1; omega
          have hin : i.toNat < es.length := by omega
          obtain ⟨rfl, hsz0, hav⟩ := ha hne
          subst h2
          refine .same g (hrun _ es.length cap _ hs h0 (by omega) hv) ?_
          rw [addr_add]
          refine .fr (.fp b _ (fun j => c i.toNat j) hav (World.block_lt_of_cell? C.w _ (hc 0 0 (by omega) hsz0)) (fun j hj => ?_) (fun j hj => ?_) fun j hj => ?_)
          · rw [hsz _ hin] at hj; exact hc _ _ hin hj
          · rw [hsz _ hin] at hj; exact h1' _ _ hin hj
          · rw [hsz _ hin] at hj; exact hr _ _ hin hj
      · cases hp
    · rename_i size n e off len hs hx
      obtain ⟨rfl, rfl⟩ := prim_inj hp
      obtain ⟨b, hb, rfl⟩ := mapM_one hbs
      simp only at hk
      split at hk
      · rename_i hc
        obtain ⟨he, hit, hlen, hsz, h0, h1⟩ := hc
        simp only [Option.some.injEq] at hk
        subst hk
        obtain ⟨a, cap, hv, hcap, hl, ha⟩ := (hx ▸ hρ x).os_inv hb he
        rw [ha (by omega)] at hv
        refine .same g (hrun size len cap _ hs h0 h1 hv) (.op_mk g hb he ?_)
        rw [addr_add, hsz, Nat.add_mul]
        congr 3
        omega
      · cases hk
    · cases hp
  · rename_i alen elem ik i hu hi
    have hiv := (hi ▸ hρ ix).v_inv.1
    have hrun : ∀ (size : Nat) (ad : Addr), infoSize E.P elem = some size → 0 ≤ i → i < (alen : Int) → ev x = .pointer (some ad) → (execOp ev o).run E.P C.w = .ok (.value (.pointer (some (ad.add (i.toNat * size))))) C.w := by
      intro size ad hs h0 h1 hv
      simp only [execOp, ho, hv, hiv, Instr.indexAt, Sem.run_bind, asIntOf, Sem.run_pure, Result.andThen_ok, run_underlying hu, Instr.sureAddr]
      rw [if_pos ⟨h0, h1⟩]
      simp [run_sizeOf' hs]
    split at hp
    · rename_i size cs hs hx
      split at hp
      · rename_i hc
        obtain rfl := val_ok hp hk
        have hf := (hx ▸ hρ x).fp_inv
        generalize hv : ev x = u at hf
        cases hf with
        | fp b o' c hb hlt hcc h1 hr =>
          refine .same g (hrun size _ hs hc.1 hc.2 hv) ?_
          rw [addr_add]
          refine .fr (.fp b _ (fun j => c (i.toNat * size + j)) hb hlt (fun j hj => ?_) (fun j hj => h1 _ ?_) fun j hj => ?_)
          · have hj' : i.toNat * size + j < cs.length := by simp at hj; omega
            rw [← hcc _ hj', Nat.add_assoc]
          · simp at hj; omega
          · have hj' : i.toNat * size + j < cs.length := by simp at hj; omega
            rw [getD_drop]
            exact hr _ hj'
      · cases hp
    · rename_i size n e i' j hs hx
      split at hp
      · rename_i hc
        obtain ⟨b, hb, he, rfl⟩ := live_ok hp hbs hk
        refine .same g (hrun size _ hs hc.1 hc.2 ((hx ▸ hρ x).op_inv hb he)) (.op_mk g hb he ?_)
        rw [addr_add]
        congr 3
        omega
      · cases hp
    · cases hp
  · cases hp

theorem ok_index (g : Good C) (hρ : ∀ x, VR C (ρ x) (ev x)) {t : TypeId} {x ix : Operand} (ho : o.op = .index t x ix) (hp : plan E o ρ = .prim rd k) (hk : k bs = some ef) : EffOK E.P C o ev ef := by
  simp only [plan, ho] at hp
  split at hp
  · rename_i s ik i hu hx hi
    have hv := (hx ▸ hρ x).v_inv.1
    have hiv := (hi ▸ hρ ix).v_inv.1
    split at hp
    · rename_i h0
      split at hp
      · rename_i b hb
        obtain rfl := val_ok hp hk
        refine .same g (v := .int .u8 b.toNat) ?_ (.fr (.v rfl))
        have hb' : s.data[i.toNat]? = some b := by simpa using hb
        have hsz : i.toNat < s.size := (Array.getElem?_eq_some_iff.1 hb').1
        have hg : s[i.toNat]? = some b := by
          have he : s.data[i.toNat] = b := (Array.getElem?_eq_some_iff.1 hb').2
          have : s[i.toNat]? = some s[i.toNat] := by simp [getElem?_pos, hsz]
          rw [this]
          congr 1
        simp only [execOp, ho, hv, hiv, Instr.index, Sem.run_bind, asIntOf, Sem.run_pure, Result.andThen_ok, run_underlying hu]
        rw [if_pos h0, hg]
        rfl
      · cases hp
    · cases hp
  · rename_i len elem cs ik i hu hx hi
    have hiv := (hi ▸ hρ ix).v_inv.1
    obtain ⟨vs, hv, hl, h1, hr⟩ := (hx ▸ hρ x).agg_inv
    split at hp
    · rename_i size hs
      split at hp
      · rename_i hc
        obtain ⟨y, hy, rfl⟩ := opt_ok hp hk
        obtain ⟨v, hrun, hvr⟩ := part_rel (C := C) ⟨hl, fun i hi => ⟨h1 i hi, hr i hi⟩⟩ hy
        refine .same g (v := v) ?_ hvr
        simp only [execOp, ho, hv, hiv, Instr.index, Sem.run_bind, asIntOf, Sem.run_pure, Result.andThen_ok, run_underlying hu]
        rw [if_pos hc]
        simp [run_sizeOf' hs, hrun]
      · cases hp
    · cases hp
  · cases hp

end
end Go.Am
