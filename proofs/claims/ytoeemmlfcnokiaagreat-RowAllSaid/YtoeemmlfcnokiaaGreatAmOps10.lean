/- What the abstract machine plans is what the model does: append as it is planned, copy; all primitive operations together. -/
import Derived.Test.YtoeemmlfcnokiaaGreatAmOps9
set_option linter.all false
set_option linter.deprecated false
namespace Go.Am

section
variable {E : Env} {C : Ctx} {o : Oper} {ρ : Operand → AV} {ev : Operand → Value} {rd : List Nat} {k : List Blk → Option Eff} {bs : List Blk} {ef : Eff}

/-- What stands behind an append's second argument. -/
def Apps (P : Program) (C : Ctx) (t t' ty e : TypeId) (i : TypeInfo) (z u : Value) (es : List (List AV)) : Prop :=
  ∃ news, App P C.w t t' ty e i z u es.length news ∧ news.length = es.length * i.size ∧ (∀ u ∈ news, u.oneCell' = true) ∧ LR C es i.size news
def SX (P : Program) (C : Ctx) (t t' ty : TypeId) (x : AV) (u : Value) : Prop :=
  ∀ (e : TypeId) (i : TypeInfo) (z : Value), P.underlying t = some (.slice e) → P.info? e = some i → i.zero = some z → z.cells.size = i.size → z.cells.toList.all plain = true →
    (∀ sz es, x = .sl sz es → (es = [] ∨ sz = i.size) → Apps P C t t' ty e i z u es) ∧
    ((∀ sz es, x ≠ .sl sz es) → VR C x u ∧ ∀ es sz, SR C es u sz → (es = [] ∨ sz = i.size) → Apps P C t t' ty e i z u es)
theorem SX.of {P : Program} {t t' ty : TypeId} {x : AV} {u : Value} (h : VR C x u) (hd' : ∃ e', P.underlying t' = some (.slice e')) : SX P C t t' ty x u := by
  intro e i z ht hi hz _ _
  have key : ∀ es sz, SR C es u sz → (es = [] ∨ sz = i.size) → Apps P C t t' ty e i z u es := fun es sz hs hsz => by
    obtain ⟨news, h1, h2, h3, h4⟩ := hs.src (P := P) hsz
    exact ⟨news, App.of_src ht (.inl hd') hi hz h1, h2, h3, h4⟩
  exact ⟨fun sz es e1 hsz => by subst e1; exact key es sz h.sl_inv.sl_sr.1 hsz, fun _ => ⟨h, key⟩⟩
theorem SX.zero {P : Program} {t t' ty : TypeId} {k k' : IntKind} {l : Int} {size bytes : Nat} {zs : List AV} {e0 : TypeId} (hu : P.underlying t = some (.slice e0)) (hd' : P.underlying t' = some (.int k)) (hs : infoSize P e0 = some size) (hb : infoBytes P e0 = some bytes) (hz : zeroCells P e0 = some zs)
    (h0 : 0 ≤ l) (h1 : l ≤ roomMax) (h2 : (bytes : Int) * l ≤ roomMax) : SX P C t t' ty (.sl size (List.replicate l.toNat zs)) (.int k' l) := by
  intro e i z ht hi hzz hzs hall
  rw [hu] at ht
  cases ht
  obtain ⟨i', hi', rfl⟩ := infoBytes_ok hb
  rw [hi] at hi'
  cases hi'
  obtain ⟨i'', z', hi'', hz', _, rfl⟩ := zeroCells_ok hz
  rw [hi] at hi''
  cases hi''
  rw [hzz] at hz'
  cases hz'
  simp only [roomMax] at h1 h2
  refine ⟨fun sz es e1 _ => ?_, fun h => absurd rfl (h _ _)⟩
  injection e1 with e2 e3
  subst e3
  have hlr := LR_zero (C := C) z hall l.toNat
  have hzl : (Builtin.zeroCells z.cells l.toNat).toList = (List.range (l.toNat * z.cells.size)).map fun i => z.cells[i % z.cells.size]! := by
    simp [Builtin.zeroCells]
  refine ⟨(Builtin.zeroCells z.cells l.toNat).toList, ?_, ?_, ?_, ?_⟩
  · rw [List.length_replicate]
    exact App.of_zero hu hd' hi hzz h0 (by omega) (by omega) hzs
  · rw [hzl, List.length_replicate, ← hzs]
    simp
  · intro u hu
    rw [hzl] at hu
    obtain ⟨m, hm, rfl⟩ := List.getElem_of_mem hu
    have hl : m < l.toNat * z.cells.size := by simpa using hm
    have hpos : 0 < z.cells.size := Nat.pos_of_ne_zero fun e => by rw [e] at hl; simp at hl
    have hi2 : m / z.cells.size < (List.replicate l.toNat (z.cells.toList.map AV.v)).length := by
      rw [List.length_replicate]
      exact Nat.div_lt_of_lt_mul (by rw [Nat.mul_comm]; exact hl)
    obtain ⟨v, a, b, _⟩ := hlr.2.2 _ (m % z.cells.size) hi2 (Nat.mod_lt _ hpos)
    have e : m / z.cells.size * z.cells.size + m % z.cells.size = m := by
      rw [Nat.mul_comm]
      exact Nat.div_add_mod m z.cells.size
    rw [e, List.getElem?_eq_getElem hm] at a
    injection a with a
    rw [a]
    exact b
  · rw [hzl, ← hzs]
    exact hlr
theorem SX.str {P : Program} {t t' ty : TypeId} (hd' : P.underlying t' = some .string) (s : ByteArray) : SX P C t t' ty (.sl 1 (s.data.toList.map fun b => [.v (.int .u8 b.toNat)])) (.string s) := by
  intro e i z ht hi hzz _ _
  refine ⟨fun sz es e1 hs => ?_, fun h => absurd rfl (h _ _)⟩
  injection e1 with e1 e2
  subst e1; subst e2
  suffices h : ∃ news, Src P C.w (.string s) i.size (s.data.toList.map fun b : UInt8 => [AV.v (.int .u8 b.toNat)]).length news ∧ news.length = (s.data.toList.map fun b : UInt8 => [AV.v (.int .u8 b.toNat)]).length * i.size ∧ (∀ u ∈ news, u.oneCell' = true) ∧ LR C (s.data.toList.map fun b : UInt8 => [AV.v (.int .u8 b.toNat)]) i.size news by
    obtain ⟨news, h1, h2, h3, h4⟩ := h
    exact ⟨news, App.of_src ht (.inr hd') hi hzz h1, h2, h3, h4⟩
  generalize i.size = size at hs ⊢
  have hlen : (s.data.toList.map fun b : UInt8 => [AV.v (.int .u8 b.toNat)]).length = s.size := by simp
  have hex : s.extract 0 s.size = s := by
    apply ByteArray.ext
    rw [ByteArray.data_extract]
    exact Array.extract_size
  refine ⟨s.data.toList.map fun b => .int .u8 b.toNat, ⟨fun w' => by rw [hlen]; rfl, fun w' _ => ?_⟩, ?_, fun u hu => ?_, ?_⟩
  · rw [hlen]
    simp only [Builtin.firstCells, hex, Sem.run_pure]
    congr 1
    apply Array.ext'
    simp
  · rcases hs with h | rfl
    · have hn := congrArg List.length h
      rw [List.length_map] at hn
      rw [h, List.length_map, hn]
      simp
    · simp
  · obtain ⟨b, _, rfl⟩ := List.mem_map.1 hu
    rfl
  · refine ⟨?_, fun i hi => ?_, fun i j hi hj => ?_⟩
    · rcases hs with h | rfl
      · have hn := congrArg List.length h
        rw [List.length_map] at hn
        rw [h, List.length_map, hn]
        simp
      · simp
    · have hi' : i < s.data.toList.length := by simpa using hi
      rcases hs with h | rfl
      · rw [h] at hi; simp at hi
      · simp only [List.getD_eq_getElem?_getD, List.getElem?_map, List.getElem?_eq_getElem hi']
        rfl
    · have hi' : i < s.data.toList.length := by simpa using hi
      rcases hs with h | rfl
      · rw [h] at hi; simp at hi
      · have : j = 0 := by omega
        subst this
        refine ⟨.int .u8 (s.data.toList[i]).toNat, ?_, rfl, ?_⟩
        · simp only [Nat.mul_one, Nat.add_zero, List.getElem?_map, List.getElem?_eq_getElem hi']
          rfl
        · simp only [List.getD_eq_getElem?_getD, List.getElem?_map, List.getElem?_eq_getElem hi']
          exact .fr (.v rfl)

theorem srd_sx {P : Program} (g : Good C) {t t' ty e : TypeId} {i : TypeInfo} {z : Value} {x : AV} {u : Value}
    (h : (∀ sz es, x = .sl sz es → (es = [] ∨ sz = i.size) → Apps P C t t' ty e i z u es) ∧ ((∀ sz es, x ≠ .sl sz es) → VR C x u ∧ ∀ es sz, SR C es u sz → (es = [] ∨ sz = i.size) → Apps P C t t' ty e i z u es))
    {kk : Nat → List (List AV) → Option Eff} (hp : srd x kk = .prim rd k) (hbs : rd.mapM C.get = some bs) (hk : k bs = some ef) :
    ∃ es sz, kk sz es = some ef ∧ ((es = [] ∨ sz = i.size) → Apps P C t t' ty e i z u es) := by
  by_cases hx : ∃ sz es, x = .sl sz es
  · obtain ⟨sz, es, rfl⟩ := hx
    unfold srd at hp
    obtain ⟨rfl, rfl⟩ := prim_inj hp
    exact ⟨es, sz, hk, h.1 sz es rfl⟩
  · have hv := h.2 (fun sz es e => hx ⟨sz, es, e⟩)
    obtain ⟨es, sz, h1, h2⟩ := srd_ok g hp hbs hk hv.1
    exact ⟨es, sz, h1, hv.2 es sz h2⟩

/-- Nothing is appended. -/
theorem append_none (g : Good C) {P : Program} {t t' e : TypeId} {i : TypeInfo} {z : Value} {s : AV} {v u : Value} (hx : Apps P C t t' o.type e i z u []) (hs : VR C s v)
    {a : Option Addr} {len cap : Nat} (hv : v = .slice a len cap) (hc : len ≤ cap)
    (hrun : (execOp ev o).run P C.w = ((Builtin.append_ #[t, t'] o.type #[v, u]).run P C.w).andThen fun a w' => .ok (.value a) w') : EffOK P C o ev (.none s) := by
  obtain ⟨news, h1, h2, _⟩ := hx
  have : news = [] := List.eq_nil_of_length_eq_zero (by simpa using h2)
  subst this
  refine .same g (v := v) ?_ hs
  rw [hrun, hv, h1.room a len cap (by simpa using hc)]
  cases a <;> simp [storeCells]

theorem ok_appendA (g : Good C) {t t' : TypeId} {s x : AV} {v u : Value} (hs : VR C s v) (hx : SX E.P C t t' o.type x u)
    (hrun : (execOp ev o).run E.P C.w = ((Builtin.append_ #[t, t'] o.type #[v, u]).run E.P C.w).andThen fun a w' => .ok (.value a) w')
    (hp : appendA E t s x = .prim rd k) (hbs : rd.mapM C.get = some bs) (hk : k bs = some ef) : EffOK E.P C o ev ef := by
  unfold appendA at hp
  split at hp
  · rename_i elem ht
    split at hp
    · rename_i bytes size z hby hsz hz
      split at hp
      · cases hp
      · rename_i hc
        obtain ⟨i, zv, hi, hzz, hall, rfl⟩ := zeroCells_ok hz
        obtain ⟨i', hi', rfl⟩ := infoBytes_ok hby
        obtain ⟨i'', hi'', rfl⟩ := infoSize_ok hsz
        rw [hi] at hi' hi''
        cases hi'
        cases hi''
        have hzs : zv.cells.size = i.size := by
          have : ¬ ((zv.cells.toList.map AV.v).length ≠ i.size) := fun h => hc (.inr (.inr h))
          simpa using this
        have hb : 0 < i.bytes := Nat.pos_of_ne_zero fun h => hc (.inr (.inl h))
        replace hx := hx elem i zv ht hi hzz hzs hall
        -- out of nothing
        have fresh : ∀ (a : Option Addr) (es : List (List AV)) (sz : Nat), v = .slice a 0 0 → ((es = [] ∨ sz = i.size) → Apps E.P C t t' o.type elem i zv u es) →
            (if es.isEmpty then some (Eff.none s) else if es.length * i.bytes ≤ roomMax ∧ sz = i.size then some (.new { elem, sz := i.size, ep := 0, es } fun n => .os n 0 0 es.length) else none) = some ef → EffOK E.P C o ev ef := by
          intro a es sz hv h he
          split at he
          · rename_i hem
            simp only [Option.some.injEq] at he
            subst he
            have : es = [] := by simpa using hem
            subst this
            exact append_none g (h (.inl rfl)) hs hv (Nat.le_refl _) hrun
          · rename_i hem
            split at he
            · rename_i hfit
              simp only [Option.some.injEq] at he
              subst he
              obtain ⟨news, h1, h2, h3, h4⟩ := h (.inr hfit.2)
              exact append_fresh g hzs hb h1 h4 a hv (by simpa using hem) hfit.1 hrun
            · cases he
        -- onto an owned block
        have onto : ∀ (n e off len : Nat) (b : Blk) (es : List (List AV)) (sz : Nat), s = .os n e off len → C.get n = some b → ((es = [] ∨ sz = i.size) → Apps E.P C t t' o.type elem i zv u es) →
            (if b.ep = e ∧ b.it.isNone ∧ off + len ≤ b.es.length ∧ b.sz = i.size ∧ b.elem = elem then
              if es.isEmpty then some (Eff.none (.os n e off len)) else if (len + es.length) * i.bytes ≤ roomMax ∧ sz = i.size then some (.set n { b with ep := e + 1, es := (b.es.drop off).take len ++ es } (.os n (e + 1) 0 (len + es.length))) else none
            else none) = some ef → EffOK E.P C o ev ef := by
          intro n e off len b es sz hse hg h he
          subst hse
          split at he
          · rename_i hcond
            obtain ⟨c1, c2, c3, c4, c5⟩ := hcond
            obtain ⟨a, cap, hv, hcap, hlc, _⟩ := hs.os_inv hg c1
            split at he
            · rename_i hem
              simp only [Option.some.injEq] at he
              subst he
              have : es = [] := by simpa using hem
              subst this
              exact append_none g (h (.inl rfl)) hs hv hlc hrun
            · rename_i hem
              split at he
              · rename_i hfit
                simp only [Option.some.injEq] at he
                subst he
                obtain ⟨news, h1, h2, h3, h4⟩ := h (.inr hfit.2)
                exact append_onto g hzs hb h1 h3 h4 hs hg c1 (isNone_eq c2) c3 c4 c5 (by simpa using hem) hfit.1 hrun
              · cases he
          · cases he
        have none_at : (x = .e0 ∨ x = .v (.slice none 0 0) ∨ ∃ sz, x = .sl sz []) → Apps E.P C t t' o.type elem i zv u [] := by
          intro hc
          rcases hc with rfl | rfl | ⟨sz, rfl⟩
          · have := hx.2 (by simp)
            exact this.2 [] i.size (e0_sr this.1 i.size) (.inl rfl)
          · have := hx.2 (by simp)
            exact this.2 [] i.size (nil_sr this.1 i.size) (.inl rfl)
          · exact hx.1 sz [] rfl (.inl rfl)
        simp only at hp
        split at hp
        · obtain ⟨a, hv⟩ := hs.e0_inv
          obtain ⟨es, sz, h1, h2⟩ := srd_sx g hx hp hbs hk
          exact fresh (some a) es sz hv h2 h1
        · obtain ⟨es, sz, h1, h2⟩ := srd_sx g hx hp hbs hk
          exact fresh none es sz hs.v_inv.1 h2 h1
        · obtain rfl := val_ok hp hk
          obtain ⟨a, b, o', cap, hv, hlc, _⟩ := hs.sl_inv.sl_sr.1
          exact append_none g (none_at (.inr (.inr ⟨_, rfl⟩))) hs hv hlc hrun
        · obtain rfl := val_ok hp hk
          obtain ⟨a, b, o', cap, hv, hlc, _⟩ := hs.sl_inv.sl_sr.1
          exact append_none g (none_at (.inl rfl)) hs hv hlc hrun
        · obtain rfl := val_ok hp hk
          obtain ⟨a, b, o', cap, hv, hlc, _⟩ := hs.sl_inv.sl_sr.1
          exact append_none g (none_at (.inr (.inl rfl))) hs hv hlc hrun
        · rename_i n e off len m e' off' len'
          obtain ⟨rfl, rfl⟩ := prim_inj hp
          obtain ⟨b, c, hb, hcm, rfl⟩ := mapM_two hbs
          simp only at hk
          split at hk
          · cases hk
          · cases he : sliceElems c e' off' len' with
            | none => rw [he] at hk; cases hk
            | some es =>
              rw [he] at hk
              have hv := hx.2 (by simp)
              exact onto n e off len b es c.sz rfl hb (hv.2 es c.sz (os_sr g hv.1 hcm he).1) hk
        · rename_i n e off len sz new
          obtain ⟨rfl, rfl⟩ := prim_inj hp
          obtain ⟨b, hb, rfl⟩ := mapM_one hbs
          exact onto n e off len b new sz rfl hb (hx.1 sz new rfl) hk
        · rename_i n e off len
          obtain ⟨rfl, rfl⟩ := prim_inj hp
          obtain ⟨b, hb, rfl⟩ := mapM_one hbs
          exact onto n e off len b [] 0 rfl hb (fun _ => none_at (.inl rfl)) hk
        · rename_i n e off len
          obtain ⟨rfl, rfl⟩ := prim_inj hp
          obtain ⟨b, hb, rfl⟩ := mapM_one hbs
          exact onto n e off len b [] 0 rfl hb (fun _ => none_at (.inr (.inl rfl))) hk
        · cases hp
    · cases hp
  · cases hp

theorem ok_append (g : Good C) (hρ : ∀ x, VR C (ρ x) (ev x)) {c : Call} (ho : o.op = .call c) (hc : c.callee = .builtin .append) (hp : plan E o ρ = .prim rd k) (hbs : rd.mapM C.get = some bs) (hk : k bs = some ef) : EffOK E.P C o ev ef := by
  have hrun : ∀ (t t' : TypeId) (v u : Value), c.argTypes = #[t, t'] → c.args.map ev = #[v, u] → (execOp ev o).run E.P C.w = ((Builtin.append_ #[t, t'] o.type #[v, u]).run E.P C.w).andThen fun a w' => .ok (.value a) w' := by
    intro t t' v u h1 h2
    rw [exec_builtin ho hc, h1, h2]
    simp only [builtin, Sem.run_bind]
    rfl
  simp only [plan, ho, hc] at hp
  unfold builtinA at hp
  split at hp
  · rename_i heq _ _; cases heq
  · rename_i heq _ _; cases heq
  · rename_i heq _ _; cases heq
  · rename_i heq _ _; cases heq
  · rename_i s x t t' _ ha ht
    obtain ⟨v, u, hvu, hs, hx⟩ := args_two hρ ha
    have hts := types_two ht
    split at hp
    · rename_i htt
      subst htt
      have hsl : ∃ e, E.P.underlying t = some (.slice e) := by
        unfold appendA at hp
        split at hp
        · rename_i elem hu; exact ⟨elem, hu⟩
        · cases hp
      exact ok_appendA g (t' := t) hs (SX.of hx hsl) (hrun t t v u hts hvu) hp hbs hk
    · split at hp
      · rename_i e kk kv l hu hu'
        split at hp
        · rename_i size bytes zs h1 h2 h3
          split at hp
          · rename_i hc
            have := hx.v_inv.1
            subst this
            exact ok_appendA g hs (SX.zero hu hu' h1 h2 h3 hc.1 hc.2.1 hc.2.2.1) (hrun t t' v _ hts hvu) hp hbs hk
          · cases hp
        · cases hp
      · rename_i e str hu hu'
        split at hp
        · have := hx.v_inv.1
          subst this
          exact ok_appendA g hs (SX.str hu' str) (hrun t t' v _ hts hvu) hp hbs hk
        · cases hp
      · cases hp
  · rename_i heq _ _; cases heq
  · rename_i heq; cases heq
  · rename_i heq; cases heq
  · cases hp

end
end Go.Am
