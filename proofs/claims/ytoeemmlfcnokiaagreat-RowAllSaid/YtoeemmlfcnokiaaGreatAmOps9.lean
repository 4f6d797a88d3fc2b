/- What the abstract machine plans is what the model does: append, copy. -/
import Derived.Test.YtoeemmlfcnokiaaGreatAmOps8
set_option linter.all false
set_option linter.deprecated false
namespace Go.Am

/-- What is appended: how many elements, which cells. -/
structure Src (P : Program) (w : World) (x : Value) (size n : Nat) (news : List Value) : Prop where
  len : ∀ w', (Builtin.lenOf x).run P w' = .ok n w'
  cells : ∀ w', (∀ a, w'.cell? a = w.cell? a) → (Builtin.firstCells size n x).run P w' = .ok news.toArray w'

section
variable {P : Program} {w : World} {t t' ty e : TypeId} {i : TypeInfo} {z x : Value} {n : Nat} {news : List Value}

theorem append_room (ht : P.underlying t = some (.slice e)) (hd' : (∃ e', P.underlying t' = some (.slice e')) ∨ P.underlying t' = some .string) (hi : P.info? e = some i) (hx : Src P w x i.size n news) (base : Option Addr) (sLen sCap : Nat) (hroom : sLen + n ≤ sCap) :
    (Builtin.append_ #[t, t'] ty #[.slice base sLen sCap, x]).run P w =
      ((match base with | some a => storeCells (a.add (sLen * i.size)) news | none => pure () : Sem Unit).run P w).andThen fun _ w' => .ok (.slice base (sLen + n) sCap) w' := by
  have hfc := hx.cells w (fun _ => rfl)
  rcases hd' with ⟨e', h⟩ | h <;> cases base <;> simp [Builtin.append_, run_underlying ht, run_underlying h, sizeOf, typeInfo, hi, hx.len, hroom, hfc]

theorem append_grow (ht : P.underlying t = some (.slice e)) (hd' : (∃ e', P.underlying t' = some (.slice e')) ∨ P.underlying t' = some .string) (hi : P.info? e = some i) (hz : i.zero = some z) (hx : Src P w x i.size n news) (base : Option Addr) (sLen sCap : Nat) (olds : List Value)
    (hold : ∀ w', (∀ a, w'.cell? a = w.cell? a) → (Builtin.firstCells i.size sLen (.slice base sLen sCap)).run P w' = .ok olds.toArray w')
    (hg : sCap < sLen + n) (h63 : ((sLen + n : Nat) : Int) ≤ 9223372036854775807) (hfit : Builtin.nextslicecap (sLen + n) sCap * i.bytes ≤ 281474976710656) :
    (Builtin.append_ #[t, t'] ty #[.slice base sLen sCap, x]).run P w =
      .ok (.slice (some ⟨w.heap.size, 0, none⟩) (sLen + n) (grownCap w (sLen + n) sCap e))
        (w.drew.alloc (.cells (olds ++ news ++ (Builtin.zeroCells z.cells (grownCap w (sLen + n) sCap e - (sLen + n))).toList).toArray e)) := by
  have hn : ¬ (sLen + n ≤ sCap) := by omega
  have h63' : ¬ (9223372036854775807 < ((sLen : Int) + (n : Int))) := by omega
  have h48' : ¬ (281474976710656 < Builtin.nextslicecap (sLen + n) sCap * i.bytes) := by omega
  have hfc := hx.cells w.drew (fun _ => rfl)
  have hfo := hold w.drew (fun _ => rfl)
  rcases hd' with ⟨e', h⟩ | h <;>
  · simp [Builtin.append_, run_underlying ht, run_underlying h, sizeOf, typeInfo, zeroValue, hi, hz, hx.len, hn, h63', h48', Question.forced, hfc, hfo, newRow, grownCap]
    try (congr 2; apply Array.ext'; simp)

/-- An argument of append, as it goes into the two ways. -/
structure App (P : Program) (w : World) (t t' ty e : TypeId) (i : TypeInfo) (z x : Value) (n : Nat) (news : List Value) : Prop where
  room : ∀ (base : Option Addr) (sLen sCap : Nat), sLen + n ≤ sCap → (Builtin.append_ #[t, t'] ty #[.slice base sLen sCap, x]).run P w =
      ((match base with | some a => storeCells (a.add (sLen * i.size)) news | none => pure () : Sem Unit).run P w).andThen fun _ w' => .ok (.slice base (sLen + n) sCap) w'
  grow : ∀ (base : Option Addr) (sLen sCap : Nat) (olds : List Value), (∀ w', (∀ a, w'.cell? a = w.cell? a) → (Builtin.firstCells i.size sLen (.slice base sLen sCap)).run P w' = .ok olds.toArray w') →
    sCap < sLen + n → ((sLen + n : Nat) : Int) ≤ 9223372036854775807 → Builtin.nextslicecap (sLen + n) sCap * i.bytes ≤ 281474976710656 →
    (Builtin.append_ #[t, t'] ty #[.slice base sLen sCap, x]).run P w =
      .ok (.slice (some ⟨w.heap.size, 0, none⟩) (sLen + n) (grownCap w (sLen + n) sCap e))
        (w.drew.alloc (.cells (olds ++ news ++ (Builtin.zeroCells z.cells (grownCap w (sLen + n) sCap e - (sLen + n))).toList).toArray e))
theorem App.of_src (ht : P.underlying t = some (.slice e)) (hd' : (∃ e', P.underlying t' = some (.slice e')) ∨ P.underlying t' = some .string) (hi : P.info? e = some i) (hz : i.zero = some z) (hx : Src P w x i.size n news) : App P w t t' ty e i z x n news :=
  ⟨fun base sLen sCap h => append_room ht hd' hi hx base sLen sCap h, fun base sLen sCap olds h1 h2 h3 h4 => append_grow ht hd' hi hz hx base sLen sCap olds h1 h2 h3 h4⟩
theorem App.of_zero (ht : P.underlying t = some (.slice e)) {k k' : IntKind} {l : Int} (hd' : P.underlying t' = some (.int k)) (hi : P.info? e = some i) (hz : i.zero = some z) (h0 : 0 ≤ l) (h1 : l ≤ 140737488355328) (h2 : (i.bytes : Int) * l ≤ 140737488355328) (hzs : z.cells.size = i.size) :
    App P w t t' ty e i z (.int k' l) l.toNat (Builtin.zeroCells z.cells l.toNat).toList := by
  have hw : IntKind.i64.wrap l = l := IntWalk.i64_in _ (by omega)
  have hn : ¬ (l < 0) := by omega
  have hb' : ¬ (281474976710656 < l * (i.bytes : Int)) := by rw [Int.mul_comm]; omega
  have hz0 : l.toNat * i.size = 0 → Builtin.zeroCells z.cells l.toNat = #[] := fun h => by
    apply Array.ext'
    simp [Builtin.zeroCells, hzs, h]
  refine ⟨fun base sLen sCap hroom => ?_, fun base sLen sCap olds hold hg h63 hfit => ?_⟩
  · by_cases h : l.toNat * i.size = 0
    · cases base <;> simp [Builtin.append_, run_underlying ht, run_underlying hd', sizeOf, typeInfo, hi, asInt, asIntOf, hw, hn, hb', hroom, h, hz0 h]
    · cases base <;> simp [Builtin.append_, run_underlying ht, run_underlying hd', sizeOf, typeInfo, hi, asInt, asIntOf, hw, hn, hb', hroom, h, zeroValue, hz]
  · have hnr : ¬ (sLen + l.toNat ≤ sCap) := by omega
    have h63' : ¬ (9223372036854775807 < ((sLen : Int) + (l.toNat : Int))) := by omega
    have h63'' : ¬ (9223372036854775807 < ((sLen : Int) + max l 0)) := by omega
    have h48' : ¬ (281474976710656 < Builtin.nextslicecap (sLen + l.toNat) sCap * i.bytes) := by omega
    have hfo := hold w.drew (fun _ => rfl)
    by_cases h : l.toNat * i.size = 0
    · simp [Builtin.append_, run_underlying ht, run_underlying hd', sizeOf, typeInfo, hi, asInt, asIntOf, hw, hn, hb', hnr, h63', h63'', h48', h, hz0 h, zeroValue, hz, Question.forced, hfo, newRow, grownCap]
      try (congr 2; apply Array.ext'; simp)
    · simp [Builtin.append_, run_underlying ht, run_underlying hd', sizeOf, typeInfo, hi, asInt, asIntOf, hw, hn, hb', hnr, h63', h63'', h48', h, zeroValue, hz, Question.forced, hfo, newRow, grownCap]
      try (congr 2; apply Array.ext'; simp)
end

theorem SR.src {P : Program} {C : Ctx} {es : List (List AV)} {v : Value} {sz size : Nat} (h : SR C es v sz) (hs : es = [] ∨ sz = size) :
    ∃ news, Src P C.w v size es.length news ∧ news.length = es.length * size ∧ (∀ u ∈ news, u.oneCell' = true) ∧ LR C es size news := by
  obtain ⟨a, cap, vs, rfl, _, _, hlr, h1, hc⟩ := h.vals
  rcases hs with rfl | rfl
  · refine ⟨[], ⟨fun w' => rfl, fun w' _ => ?_⟩, by simp, by simp, ⟨by simp, fun i hi => by simp at hi, fun i j hi => by simp at hi⟩⟩
    cases a <;> simp [Builtin.firstCells, loadCells, loadCellsFrom]
  · refine ⟨vs, ⟨fun w' => rfl, fun w' hw => ?_⟩, hlr.1, h1, hlr⟩
    by_cases hne : es = []
    · subst hne
      have : vs = [] := List.eq_nil_of_length_eq_zero (by simpa using hlr.1)
      subst this
      cases a <;> simp [Builtin.firstCells, loadCells, loadCellsFrom]
    · obtain ⟨b, o, rfl, hcell⟩ := hc hne
      exact run_firstCells_some w' sz es.length ⟨b, o, none⟩ es.length cap vs hlr.1 (fun j u hj => by rw [hw, addr_add]; exact hcell j u hj)

section
variable {E : Env} {C : Ctx} {o : Oper} {ρ : Operand → AV} {ev : Operand → Value} {rd : List Nat} {k : List Blk → Option Eff} {bs : List Blk} {ef : Eff}

theorem zero_len {z : Value} {size : Nat} (h : z.cells.size = size) (n : Nat) : (Builtin.zeroCells z.cells n).toList.length = n * size := by
  simp [Builtin.zeroCells, h]

/-- A slice that came out of nothing. -/
theorem append_fresh (g : Good C) {P : Program} {t t' e : TypeId} {i : TypeInfo} {z v u : Value} (hzs : z.cells.size = i.size)
    (hb : 0 < i.bytes) {new : List (List AV)} {news : List Value} (hx : App P C.w t t' o.type e i z u new.length news) (hlr : LR C new i.size news) (a : Option Addr) (hv : v = .slice a 0 0) (hne : new ≠ []) (hfit : new.length * i.bytes ≤ roomMax)
    (hrun : (execOp ev o).run P C.w = ((Builtin.append_ #[t, t'] o.type #[v, u]).run P C.w).andThen fun a w' => .ok (.value a) w') :
    EffOK P C o ev (.new { elem := e, sz := i.size, ep := 0, es := new } fun n => .os n 0 0 new.length) := by
  intro nm hn
  subst hv
  have hpos : 0 < new.length := List.length_pos_iff.2 hne
  simp only [roomMax] at hfit
  have hsm : new.length ≤ 140737488355328 := Nat.le_trans (Nat.le_mul_of_pos_right _ hb) hfit
  have hr := hx.grow a 0 0 [] (fun w' _ => by cases a <;> simp [Builtin.firstCells, loadCells, loadCellsFrom]) (by omega) (by omega) (by rw [Nat.zero_add]; exact growslice_fits hpos hfit)
  simp only [Nat.zero_add, List.nil_append] at hr
  have hge := grownCap_ge C.w new.length 0 e
  have hcm := grownCap_le_maxLen C.w new.length 0 e (by simp only [maxLen]; omega)
  have hsz : (news ++ (Builtin.zeroCells z.cells (grownCap C.w new.length 0 e - new.length)).toList).toArray.size = grownCap C.w new.length 0 e * i.size := by
    rw [List.size_toArray, List.length_append, hlr.1, zero_len hzs, ← Nat.add_mul]
    congr 1
    omega
  obtain ⟨le, gd, vr⟩ := new_slice g nm hn (w' := C.w.drew.alloc (.cells (news ++ (Builtin.zeroCells z.cells (grownCap C.w new.length 0 e - new.length)).toList).toArray e)) (t := e) (sz := i.size) (len := new.length) (room := grownCap C.w new.length 0 e) (es := new) (0, 0)
    rfl rfl rfl rfl (fun k _ => by omega) hsz rfl hge hcm (hlr.er (fun k hk => by rw [Nat.zero_add, List.getElem?_toArray, List.getElem?_append_left hk]))
  exact ⟨_, _, le, gd, rfl, rfl, .inl (by rw [hrun, hr]; rfl), vr⟩

/-- Onto a slice of an owned block. -/
theorem append_onto (g : Good C) {P : Program} {t t' el : TypeId} {i : TypeInfo} {z v u : Value} (hzs : z.cells.size = i.size)
    (hb : 0 < i.bytes) {new : List (List AV)} {news : List Value} (hx : App P C.w t t' o.type el i z u new.length news) (h1 : ∀ u ∈ news, u.oneCell' = true) (hlr : LR C new i.size news)
    {n ep off len : Nat} (hv : VR C (.os n ep off len) v) {b : Blk} (hg : C.get n = some b) (he : b.ep = ep) (hit : b.it = none) (hlen : off + len ≤ b.es.length) (hbs : b.sz = i.size) (hbe : b.elem = el) (hne : new ≠ []) (hfit : (len + new.length) * i.bytes ≤ roomMax)
    (hrun : (execOp ev o).run P C.w = ((Builtin.append_ #[t, t'] o.type #[v, u]).run P C.w).andThen fun a w' => .ok (.value a) w') :
    EffOK P C o ev (.set n { b with ep := ep + 1, es := (b.es.drop off).take len ++ new } (.os n (ep + 1) 0 (len + new.length))) := by
  intro nm _
  have hpos : 0 < new.length := List.length_pos_iff.2 hne
  simp only [roomMax] at hfit
  have hsm : len + new.length ≤ 140737488355328 := Nat.le_trans (Nat.le_mul_of_pos_right _ hb) hfit
  obtain ⟨a, cap, rfl, hcap, hlc, ha⟩ := hv.os_inv hg he
  obtain ⟨arr, fr, r1, r2, r3, r4, r5, r6⟩ := row_of g hg hit
  have hsr := (os_sr g hv hg (es := (b.es.drop off).take len) (by unfold sliceElems; rw [if_pos ⟨he, hlen, by simp [hit]⟩])).1
  have hol : ((b.es.drop off).take len).length = len := by simp; omega
  obtain ⟨a', cap', vs, hav, _, _, olr, oone, ocell⟩ := hsr.vals
  rw [hol] at hav
  injection hav with e1 e2 e3
  subst e1
  have hesl : ((b.es.drop off).take len ++ new).length = len + new.length := by rw [List.length_append, hol]
  rw [hbs] at olr
  have hall := olr.append hlr
  by_cases hroom : len + new.length ≤ cap
  · -- in place
    have hpa : a = ⟨(C.β n).1, (C.β n).2.1 + off * b.sz, none⟩ := ha (by omega)
    subst hpa
    have hr := hx.room (some ⟨(C.β n).1, (C.β n).2.1 + off * b.sz, none⟩) len cap hroom
    have hin : (C.β n).2.1 + off * b.sz + len * i.size + news.length ≤ arr.size := by
      rw [hlr.1, r3, hbs, ← hcap]
      have e4 : (off + cap) * i.size = off * i.size + cap * i.size := Nat.add_mul ..
      have e5 : len * i.size + new.length * i.size ≤ cap * i.size := by rw [← Nat.add_mul]; exact Nat.mul_le_mul_right _ hroom
      omega
    obtain ⟨w', hst, w1, w2, w3, w4⟩ := run_storeCells P (C.β n).1 ((C.β n).2.1 + off * b.sz + len * i.size) b.elem fr news 0 C.w arr r1 r2 (by simpa using hin) h1
    simp only [Nat.add_zero] at w1
    have hs : C.w.heap.size ≤ w'.heap.size := by rw [w1]; simp
    have hk : ∀ k, k < C.w.heap.size → k ≠ (C.β n).1 → w'.heap[k]? = C.w.heap[k]? := fun k _ hne => by rw [w1, Array.getElem?_setIfInBounds_ne (fun e => hne e.symm)]
    let b' : Blk := { b with ep := ep + 1, es := (b.es.drop off).take len ++ new }
    have le := Ctx.wr_le g w' n (C.β n).1 ((C.β n).2.1 + off * b.sz) cap b' b hg (.inl rfl) (by simp only [b']; omega) (fun h => by simp only [b'] at h; omega) w2 w3 w4 hs hk
    have gd := Ctx.wr_good g w' n (C.β n).1 ((C.β n).2.1 + off * b.sz) cap b' b hg (.inl rfl) (by simp only [b']; omega) (fun h => by simp only [b'] at h; omega) w2 w3 w4 hs hk (by
      have er : ER C ((b.es.drop off).take len ++ new) i.size ((C.β n).2.1 + off * b.sz) (overV arr ((C.β n).2.1 + off * b.sz + len * i.size) news) := by
        refine hall.er (fun k hk => ?_)
        rw [List.length_append, olr.1, hol] at hk
        have hlt : (C.β n).2.1 + off * b.sz + k < arr.size := by have := hlr.1; omega
        rw [overV_get? _ _ _ _ hlt]
        by_cases hc : (C.β n).2.1 + off * b.sz + len * i.size ≤ (C.β n).2.1 + off * b.sz + k ∧ (C.β n).2.1 + off * b.sz + k < (C.β n).2.1 + off * b.sz + len * i.size + news.length
        · rw [if_pos hc, List.getElem?_append_right (by rw [olr.1, hol]; omega), olr.1, hol]
          rw [show (C.β n).2.1 + off * b.sz + k - ((C.β n).2.1 + off * b.sz + len * i.size) = k - len * i.size by omega]
          rw [List.getD_eq_getElem?_getD, List.getElem?_eq_getElem (by omega)]
          rfl
        · rw [if_neg hc]
          have hk' : k < vs.length := by rw [olr.1, hol]; omega
          rw [List.getElem?_append_left hk', List.getElem?_eq_getElem hk']
          have hne' : (b.es.drop off).take len ≠ [] := fun e => by
            rw [e] at olr
            have := olr.1
            simp at this
            rw [this] at hk'
            simp at hk'
          obtain ⟨bb, oo, h5, h6⟩ := ocell hne'
          injection h5 with h5
          injection h5 with h7 h8
          have := h6 k _ (List.getElem?_eq_getElem hk')
          rw [← h7, ← h8, cell_of_row C.w _ _ arr b.elem fr r1] at this
          rw [Array.getD_eq_getD_getElem?, this]
          rfl
      have hβ : (C.wr w' n (C.β n).1 ((C.β n).2.1 + off * b.sz) cap b').β n = ((C.β n).1, (C.β n).2.1 + off * b.sz, cap) := by simp only [Ctx.wr, upd_same]
      have hw' : (C.wr w' n (C.β n).1 ((C.β n).2.1 + off * b.sz) cap b').w = w' := rfl
      generalize C.wr w' n (C.β n).1 ((C.β n).2.1 + off * b.sz) cap b' = C' at hβ hw' le ⊢
      unfold BR
      simp only [b', hit, hβ, hw']
      refine ⟨overV arr ((C.β n).2.1 + off * b.sz + len * i.size) news, fr, ?_, by rw [overV_size]; exact r2, ?_, ?_, ?_, ?_, fun p q hp hq => ?_⟩
      · rw [w1]
        simp [g.lt hg]
      · simp only [overV_size, r3, ← hcap, Nat.add_mul]
        omega
      · rw [hesl]
        exact hroom
      · omega
      · intro p hp
        rw [hbs]
        exact er.1 p hp
      · obtain ⟨c, c1, c2, c3⟩ := er.2 p q hp (by rw [hbs] at hq; exact hq)
        refine ⟨c, ?_, c2, c3.mono le⟩
        rw [hbs] at c1 ⊢
        exact c1)
    refine ⟨_, .slice (some ⟨(C.β n).1, (C.β n).2.1 + off * b.sz, none⟩) (len + new.length) cap, le, gd, rfl, rfl, .inl ?_, .os_mk gd (b := b') (by simp [Ctx.wr, upd_same, b']) rfl rfl ?_ hroom fun _ => ?_⟩
    · rw [hrun, hr]
      simp only [addr_add, hst, Result.andThen_ok]
      rfl
    · simp [Ctx.wr, upd_same]
    · simp [Ctx.wr, upd_same]
  · -- a new block
    obtain ⟨olds, s1, s2, _, s4⟩ := hsr.src (P := P) (size := i.size) (.inr hbs)
    rw [hol] at s1 s2
    have hall' := s4.append hlr
    have hr := hx.grow (some a) len cap olds s1.cells (by omega) (by omega) (growslice_fits (by omega) hfit)
    have hge := grownCap_ge C.w (len + new.length) cap el
    have hcm := grownCap_le_maxLen C.w (len + new.length) cap el (by simp only [maxLen]; omega)
    let room := grownCap C.w (len + new.length) cap el
    let arr' := (olds ++ news ++ (Builtin.zeroCells z.cells (room - (len + new.length))).toList).toArray
    let w' := C.w.drew.alloc (.cells arr' el)
    have hasz : arr'.size = room * i.size := by
      simp only [arr']
      rw [List.size_toArray, List.length_append, List.length_append, s2, hlr.1, zero_len hzs, ← Nat.add_mul, ← Nat.add_mul]
      congr 1
      omega
    have hs : C.w.heap.size ≤ w'.heap.size := by simp [w']
    have hk : ∀ k, k < C.w.heap.size → k ≠ (C.β n).1 → w'.heap[k]? = C.w.heap[k]? := fun k hk _ => heap_alloc_old C.w.drew _ k hk
    let b' : Blk := { b with ep := ep + 1, es := (b.es.drop off).take len ++ new }
    have le := Ctx.wr_le g w' n C.w.heap.size 0 room b' b hg (.inr (Nat.le_refl _)) (by simp only [b']; omega) (fun h => by simp only [b'] at h; omega) rfl rfl rfl hs hk
    have gd := Ctx.wr_good g w' n C.w.heap.size 0 room b' b hg (.inr (Nat.le_refl _)) (by simp only [b']; omega) (fun h => by simp only [b'] at h; omega) rfl rfl rfl hs hk (by
      have er : ER C ((b.es.drop off).take len ++ new) i.size 0 arr' := hall'.er (fun k hk => by rw [Nat.zero_add, List.getElem?_toArray, List.getElem?_append_left hk])
      have hβ : (C.wr w' n C.w.heap.size 0 room b').β n = (C.w.heap.size, 0, room) := by simp only [Ctx.wr, upd_same]
      have hw' : (C.wr w' n C.w.heap.size 0 room b').w = w' := rfl
      generalize C.wr w' n C.w.heap.size 0 room b' = C' at hβ hw' le ⊢
      unfold BR
      simp only [b', hit, hβ, hw']
      refine ⟨arr', (0, 0), ?_, fun k _ => by omega, ?_, ?_, ?_, ?_, fun p q hp hq => ?_⟩
      · rw [hbe]
        exact heap_alloc_new C.w.drew _
      · simp only [Nat.zero_add, hbs]
        exact hasz
      · rw [hesl]
        exact hge
      · exact hcm
      · intro p hp
        rw [hbs]
        exact er.1 p hp
      · obtain ⟨c, c1, c2, c3⟩ := er.2 p q hp (by rw [hbs] at hq; exact hq)
        refine ⟨c, ?_, c2, c3.mono le⟩
        rw [hbs]
        exact c1)
    refine ⟨_, .slice (some ⟨C.w.heap.size, 0, none⟩) (len + new.length) room, le, gd, rfl, rfl, .inl ?_, .os_mk gd (b := b') (by simp [Ctx.wr, upd_same, b']) rfl rfl ?_ hge fun _ => ?_⟩
    · rw [hrun, hr]
      rfl
    · simp [Ctx.wr, upd_same]
    · simp [Ctx.wr, upd_same]

end
end Go.Am
