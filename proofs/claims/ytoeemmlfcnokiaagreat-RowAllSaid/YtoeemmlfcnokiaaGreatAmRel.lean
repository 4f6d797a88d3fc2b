/- The relation between abstract values and the model's values; contexts; how facts are carried on. -/
import Derived.Test.YtoeemmlfcnokiaaGreatAmDefs
import Derived.CallsIn
import Derived.OrdersIn
import Derived.Below
set_option linter.all false
set_option linter.deprecated false
namespace Go.Am

inductive FR (w : World) (av : Nat → Prop) : AV → Value → Prop
  | v {x : Value} (h : plain x = true) : FR w av (.v x) x
  | e0 (a : Addr) : FR w av .e0 (.slice (some a) 0 0)
  | sl {sz : Nat} {es : List (List AV)} (a : Addr) (b o cap : Nat) (c : Nat → Nat → Value)
      (ha : es ≠ [] → a = ⟨b, o, none⟩ ∧ 0 < sz ∧ ¬ av b) (hlen : es.length ≤ cap) (hcap : cap ≤ maxLen)
      (hsz : ∀ i, i < es.length → (es.getD i []).length = sz)
      (hc : ∀ i j, i < es.length → j < sz → w.cell? ⟨b, o + i * sz + j, none⟩ = some (c i j))
      (h1 : ∀ i j, i < es.length → j < sz → (c i j).oneCell' = true)
      (hr : ∀ i j, i < es.length → j < sz → FR w av ((es.getD i []).getD j .dead) (c i j)) :
      FR w av (.sl sz es) (.slice (some a) es.length cap)
  | fp {cs : List AV} (b o : Nat) (c : Nat → Value) (hb : ¬ av b) (hlt : b < w.heap.size)
      (hc : ∀ j, j < cs.length → w.cell? ⟨b, o + j, none⟩ = some (c j))
      (h1 : ∀ j, j < cs.length → (c j).oneCell' = true)
      (hr : ∀ j, j < cs.length → FR w av (cs.getD j .dead) (c j)) :
      FR w av (.fp cs) (.pointer (some ⟨b, o, none⟩))
  | agg {cs : List AV} (vs : Array Value) (hl : vs.size = cs.length)
      (h1 : ∀ i, i < cs.length → (vs.getD i undef).oneCell' = true)
      (hr : ∀ i, i < cs.length → FR w av (cs.getD i .dead) (vs.getD i undef)) : FR w av (.agg cs) (.agg vs)
  | tup {cs : List AV} (vs : Array Value) (hl : vs.size = cs.length)
      (hr : ∀ i, i < cs.length → FR w av (cs.getD i .dead) (vs.getD i undef)) : FR w av (.tup cs) (.tuple vs)
  | fn {cs : List AV} (f : FuncId) (vs : Array Value) (hl : vs.size = cs.length)
      (hr : ∀ i, i < cs.length → FR w av (cs.getD i .dead) (vs.getD i undef)) : FR w av (.fn f cs) (.func (.func f) #[] vs)
  | dead (x : Value) : FR w av .dead x

structure Ctx where
  w : World
  β : Nat → Nat × Nat × Nat
  get : Nat → Option Blk
  born : Nat → Prop
  X : Nat → Prop
  lp : List (Nat × Loop)   -- the loops over functions: where the record lies, what it bears
  js : List LS

/-- The blocks that frozen memory does not lie in. -/
def Ctx.av (C : Ctx) (b : Nat) : Prop := (C.X b ∨ ∃ (k : Nat) (r : Loop), C.lp[k]? = some (b, r)) ∨ ∃ n blk, C.get n = some blk ∧ (C.β n).1 = b

inductive VR (C : Ctx) : AV → Value → Prop
  | fr {x : AV} {v : Value} (h : FR C.w C.av x v) : VR C x v
  | os (n e off len : Nat) (v : Value) (hb : C.born n) (h1 : v.oneCell' = true) (he : ∀ b, C.get n = some b → e ≤ b.ep)
      (h : ∀ b, C.get n = some b → b.ep = e → ∃ a cap, v = .slice (some a) len cap ∧ off + cap = (C.β n).2.2 ∧ len ≤ cap ∧ (0 < cap → a = ⟨(C.β n).1, (C.β n).2.1 + off * b.sz, none⟩)) :
      VR C (.os n e off len) v
  | op (n e i j : Nat) (v : Value) (hb : C.born n) (h1 : v.oneCell' = true) (he : ∀ b, C.get n = some b → e ≤ b.ep)
      (h : ∀ b, C.get n = some b → b.ep = e → v = .pointer (some ⟨(C.β n).1, (C.β n).2.1 + i * b.sz + j, none⟩)) :
      VR C (.op n e i j) v
  | yl (k l : Nat) (r : Loop) (h : C.lp[k]? = some (l, r)) : VR C (.yl k) (.func (.yield l) #[] #[])
  | agg {cs : List AV} (vs : Array Value) (hl : vs.size = cs.length)
      (h1 : ∀ i, i < cs.length → (vs.getD i undef).oneCell' = true)
      (hr : ∀ i, i < cs.length → VR C (cs.getD i .dead) (vs.getD i undef)) : VR C (.agg cs) (.agg vs)
  | tup {cs : List AV} (vs : Array Value) (hl : vs.size = cs.length)
      (hr : ∀ i, i < cs.length → VR C (cs.getD i .dead) (vs.getD i undef)) : VR C (.tup cs) (.tuple vs)
  | fn {cs : List AV} (f : FuncId) (vs : Array Value) (hl : vs.size = cs.length)
      (hr : ∀ i, i < cs.length → VR C (cs.getD i .dead) (vs.getD i undef)) : VR C (.fn f cs) (.func (.func f) #[] vs)

/-- What an owned block holds. -/
def BR (C : Ctx) (n : Nat) (b : Blk) : Prop :=
  match b.it with
  | some (s, pos) => C.w.heap[(C.β n).1]? = some (.stringIter s pos) ∧ (C.β n).2.1 = 0
  | none => ∃ (cs : Array Value) (fr : Nat × Nat), C.w.heap[(C.β n).1]? = some (.cells cs b.elem fr) ∧ (∀ k, k < cs.size → ¬ (fr.1 ≤ k ∧ k < fr.2)) ∧
      cs.size = (C.β n).2.1 + (C.β n).2.2 * b.sz ∧ b.es.length ≤ (C.β n).2.2 ∧ (C.β n).2.2 ≤ maxLen ∧
      (∀ i, i < b.es.length → (b.es.getD i []).length = b.sz) ∧
      ∀ i j, i < b.es.length → j < b.sz → ∃ v, cs[(C.β n).2.1 + i * b.sz + j]? = some v ∧ v.oneCell' = true ∧ VR C ((b.es.getD i []).getD j .dead) v

/-- What the record of a loop over a function bears, by the state. -/
def LoopAt (w : World) (l : Nat) (r : Loop) : LS → Prop
  | .on => w.heap[l]? = some (.loop { r with state := .ready, pending := none })
  | .busy => w.heap[l]? = some (.loop { r with state := .busy, pending := none })
  | .jump x => w.heap[l]? = some (.loop { r with state := .done, pending := some x.code })
  | .off => l < w.heap.size

theorem LoopAt.lt {w : World} {l : Nat} {r : Loop} {s : LS} (h : LoopAt w l r s) : l < w.heap.size := by
  cases s with
  | on => exact (Array.getElem?_eq_some_iff.1 h).1
  | busy => exact (Array.getElem?_eq_some_iff.1 h).1
  | jump x => exact (Array.getElem?_eq_some_iff.1 h).1
  | off => exact h
theorem LoopAt.mono {w w' : World} {l : Nat} {r : Loop} {s : LS} (h : LoopAt w l r s) (hh : w'.heap[l]? = w.heap[l]?) (hs : w.heap.size ≤ w'.heap.size) : LoopAt w' l r s := by
  cases s with
  | on => exact hh.trans h
  | busy => exact hh.trans h
  | jump x => exact hh.trans h
  | off => exact Nat.lt_of_lt_of_le h hs

structure Good (C : Ctx) : Prop where
  blk : ∀ n b, C.get n = some b → BR C n b
  inj : ∀ n m b c, C.get n = some b → C.get m = some c → (C.β n).1 = (C.β m).1 → n = m
  notX : ∀ n b, C.get n = some b → ¬ C.X (C.β n).1
  born : ∀ n b, C.get n = some b → C.born n
  xlt : ∀ b, C.X b → b < C.w.heap.size
  lpn : C.js.length = C.lp.length
  lp : ∀ (k l : Nat) (r : Loop) (s : LS), C.lp[k]? = some (l, r) → C.js[k]? = some s → LoopAt C.w l r s
  lpX : ∀ (k l : Nat) (r : Loop), C.lp[k]? = some (l, r) → ¬ C.X l ∧ ∀ n b, C.get n = some b → (C.β n).1 ≠ l
  lpi : ∀ (k m l : Nat) (r q : Loop), C.lp[k]? = some (l, r) → C.lp[m]? = some (l, q) → k = m

theorem Good.lp_lt {C : Ctx} (g : Good C) {k l : Nat} {r : Loop} (h : C.lp[k]? = some (l, r)) : l < C.w.heap.size := by
  have hk : k < C.js.length := by rw [g.lpn]; exact (List.getElem?_eq_some_iff.1 h).1
  exact (g.lp k l r _ h (List.getElem?_eq_getElem hk)).lt

theorem Good.lt {C : Ctx} (g : Good C) {n : Nat} {b : Blk} (h : C.get n = some b) : (C.β n).1 < C.w.heap.size := by
  have := g.blk n b h
  unfold BR at this
  split at this
  · exact (Array.getElem?_eq_some_iff.1 this.1).1
  · obtain ⟨cs, fr, hh, _⟩ := this
    exact (Array.getElem?_eq_some_iff.1 hh).1

theorem Good.av_lt {C : Ctx} (g : Good C) {b : Nat} (h : C.av b) : b < C.w.heap.size := by
  rcases h with (h | ⟨k, r, h⟩) | ⟨n, blk, h, rfl⟩
  · exact g.xlt b h
  · exact g.lp_lt h
  · exact g.lt h

/-- From one context to a later one. -/
structure Le (C C' : Ctx) : Prop where
  os : C'.w.os = C.w.os
  tape : C'.w.tape = C.w.tape
  output : C'.w.output = C.w.output
  X : ∀ b, C.X b → C'.X b
  size : C.w.heap.size ≤ C'.w.heap.size
  lp : ∀ (k : Nat) x, C.lp[k]? = some x → C'.lp[k]? = some x
  xkeep : ∀ b, C.X b → C'.w.heap[b]? = C.w.heap[b]?
  keep : ∀ b, b < C.w.heap.size → ¬ C.av b → C'.w.heap[b]? = C.w.heap[b]? ∧ ¬ C'.av b
  born : ∀ n, C.born n → C'.born n
  ep : ∀ n b', C.born n → C'.get n = some b' → ∃ b, C.get n = some b ∧ b.ep ≤ b'.ep ∧ (b'.ep = b.ep → b'.sz = b.sz ∧ b'.es.length = b.es.length ∧ C'.β n = C.β n)

theorem Le.refl (C : Ctx) : Le C C :=
  ⟨rfl, rfl, rfl, fun _ h => h, Nat.le_refl _, fun _ _ h => h, fun _ _ => rfl, fun _ _ h => ⟨rfl, h⟩, fun _ h => h, fun _ b' _ h => ⟨b', h, Nat.le_refl _, fun _ => ⟨rfl, rfl, rfl⟩⟩⟩

theorem Le.trans {A B C : Ctx} (h : Le A B) (k : Le B C) : Le A C where
  os := k.os.trans h.os
  tape := k.tape.trans h.tape
  output := k.output.trans h.output
  X := fun b hb => k.X b (h.X b hb)
  size := Nat.le_trans h.size k.size
  lp := fun i x hx => k.lp i x (h.lp i x hx)
  xkeep := fun b hb => (k.xkeep b (h.X b hb)).trans (h.xkeep b hb)
  keep := fun b hb hn => by
    obtain ⟨e1, n1⟩ := h.keep b hb hn
    obtain ⟨e2, n2⟩ := k.keep b (Nat.lt_of_lt_of_le hb h.size) n1
    exact ⟨e2.trans e1, n2⟩
  born := fun n hn => k.born n (h.born n hn)
  ep := fun n b'' hn hg => by
    obtain ⟨b', g', l', e'⟩ := k.ep n b'' (h.born n hn) hg
    obtain ⟨b, g, l, e⟩ := h.ep n b' hn g'
    refine ⟨b, g, Nat.le_trans l l', fun eq => ?_⟩
    have e1 : b'.ep = b.ep := by omega
    have e2 : b''.ep = b'.ep := by omega
    obtain ⟨x1, x2, x3⟩ := e e1
    obtain ⟨y1, y2, y3⟩ := e' e2
    exact ⟨y1.trans x1, y2.trans x2, y3.trans x3⟩

theorem FR.mono {w w' : World} {av av' : Nat → Prop} (hk : ∀ b, b < w.heap.size → ¬ av b → w'.heap[b]? = w.heap[b]? ∧ ¬ av' b) (hs : w.heap.size ≤ w'.heap.size) {x : AV} {v : Value} (h : FR w av x v) : FR w' av' x v := by
  induction h with
  | v h => exact .v h
  | e0 a => exact .e0 a
  | @sl sz es a b o cap c ha hlen hcap hsz hc h1 _ ih =>
    have key : es ≠ [] → w'.heap[b]? = w.heap[b]? ∧ ¬ av' b := fun hne => by
      obtain ⟨_, hp, hav⟩ := ha hne
      have hl : 0 < es.length := List.length_pos_iff.2 hne
      exact hk b (World.block_lt_of_cell? w ⟨b, o + 0 * sz + 0, none⟩ (hc 0 0 hl hp)) hav
    refine .sl a b o cap c (fun hne => ⟨(ha hne).1, (ha hne).2.1, (key hne).2⟩) hlen hcap hsz (fun i j hi hj => ?_) h1 ih
    have hne : es ≠ [] := fun e => by subst e; simp at hi
    rw [World.cell?_of_block (w := w) (key hne).1]
    exact hc i j hi hj
  | @fp cs b o c hb hlt hc h1 _ ih =>
    obtain ⟨e, n⟩ := hk b hlt hb
    exact .fp b o c n (Nat.lt_of_lt_of_le hlt hs) (fun j hj => by rw [World.cell?_of_block (w := w) e]; exact hc j hj) h1 ih
  | agg vs hl h1 _ ih => exact .agg vs hl h1 ih
  | tup vs hl _ ih => exact .tup vs hl ih
  | fn f vs hl _ ih => exact .fn f vs hl ih
  | dead x => exact .dead x

theorem VR.mono {C C' : Ctx} (k : Le C C') {x : AV} {v : Value} (h : VR C x v) : VR C' x v := by
  induction h with
  | fr h => exact .fr (h.mono k.keep k.size)
  | os n e off len v hb h1 he h =>
    refine .os n e off len v (k.born n hb) h1 (fun b' hg => ?_) (fun b' hg hep => ?_)
    · obtain ⟨b, g, l, _⟩ := k.ep n b' hb hg
      exact Nat.le_trans (he b g) l
    · obtain ⟨b, g, l, ee⟩ := k.ep n b' hb hg
      have hle := he b g
      obtain ⟨x1, x2, x3⟩ := ee (by omega)
      obtain ⟨a, cap, hv, hc, hl, ha⟩ := h b g (by omega)
      refine ⟨a, cap, hv, by rw [x3]; exact hc, hl, fun hp => ?_⟩
      rw [x3, x1]
      exact ha hp
  | op n e i j v hb h1 he h =>
    refine .op n e i j v (k.born n hb) h1 (fun b' hg => ?_) (fun b' hg hep => ?_)
    · obtain ⟨b, g, l, _⟩ := k.ep n b' hb hg
      exact Nat.le_trans (he b g) l
    · obtain ⟨b, g, l, ee⟩ := k.ep n b' hb hg
      have hle := he b g
      obtain ⟨x1, x2, x3⟩ := ee (by omega)
      rw [h b g (by omega), x3, x1]
  | yl i l r h => exact .yl i l r (k.lp _ _ h)
  | agg vs hl h1 _ ih => exact .agg vs hl h1 ih
  | tup vs hl _ ih => exact .tup vs hl ih
  | fn f vs hl _ ih => exact .fn f vs hl ih

/-- A block that lies as it lay. -/
theorem BR.mono {C C' : Ctx} (k : Le C C') {n : Nat} {b : Blk} (h : BR C n b) (hβ : C'.β n = C.β n) (hh : C'.w.heap[(C.β n).1]? = C.w.heap[(C.β n).1]?) : BR C' n b := by
  unfold BR at h ⊢
  cases hit : b.it with
  | some sp =>
    obtain ⟨s, pos⟩ := sp
    simp only [hit] at h ⊢
    rw [hβ, hh]
    exact h
  | none =>
    simp only [hit] at h ⊢
    obtain ⟨cs, fr, h1, h2, h3, h4, h5, h6, h7⟩ := h
    refine ⟨cs, fr, by rw [hβ, hh]; exact h1, h2, by rw [hβ]; exact h3, by rw [hβ]; exact h4, by rw [hβ]; exact h5, h6, fun i j hi hj => ?_⟩
    obtain ⟨v, g1, g2, g3⟩ := h7 i j hi hj
    exact ⟨v, by rw [hβ]; exact g1, g2, g3.mono k⟩

def upd {α : Type} (f : Nat → α) (n : Nat) (x : α) (m : Nat) : α := if m = n then x else f m
theorem upd_same {α : Type} (f : Nat → α) (n : Nat) (x : α) : upd f n x n = x := by simp [upd]
theorem upd_other {α : Type} (f : Nat → α) {n m : Nat} (x : α) (h : m ≠ n) : upd f n x m = f m := by simp [upd, h]

/-- The world grows by blocks that nobody owns. -/
def Ctx.grow (C : Ctx) (w' : World) : Ctx := { C with w := w' }
theorem Ctx.grow_le {C : Ctx} (g : Good C) (w' : World) (ho : w'.os = C.w.os) (ht : w'.tape = C.w.tape) (hu : w'.output = C.w.output) (hs : C.w.heap.size ≤ w'.heap.size)
    (hk : ∀ b, b < C.w.heap.size → w'.heap[b]? = C.w.heap[b]?) : Le C (C.grow w') :=
  ⟨ho, ht, hu, fun _ h => h, hs, fun _ _ h => h, fun b hb => hk b (g.xlt b hb), fun b hb hn => ⟨hk b hb, hn⟩, fun _ h => h, fun _ b' _ h => ⟨b', h, Nat.le_refl _, fun _ => ⟨rfl, rfl, rfl⟩⟩⟩
theorem Ctx.grow_good {C : Ctx} (g : Good C) (w' : World) (ho : w'.os = C.w.os) (ht : w'.tape = C.w.tape) (hu : w'.output = C.w.output) (hs : C.w.heap.size ≤ w'.heap.size)
    (hk : ∀ b, b < C.w.heap.size → w'.heap[b]? = C.w.heap[b]?) : Good (C.grow w') where
  blk := fun n b h => (g.blk n b h).mono (Ctx.grow_le g w' ho ht hu hs hk) rfl (hk _ (g.lt h))
  inj := g.inj
  notX := g.notX
  born := g.born
  xlt := fun b hb => Nat.lt_of_lt_of_le (g.xlt b hb) hs
  lpn := g.lpn
  lp := fun k l r s h1 h2 => (g.lp k l r s h1 h2).mono (hk _ (g.lp_lt h1)) hs
  lpX := g.lpX
  lpi := g.lpi

/-- A new owned block, under a name that was never used. B: where it lies (a block that was not there). -/
def Ctx.put (C : Ctx) (w' : World) (n B o room : Nat) (b : Blk) : Ctx :=
  { C with w := w', β := upd C.β n (B, o, room), get := upd C.get n (some b), born := fun m => C.born m ∨ m = n }
theorem Ctx.put_le {C : Ctx} (g : Good C) (w' : World) (n B o room : Nat) (b : Blk) (hn : ¬ C.born n) (hB : C.w.heap.size ≤ B)
    (ho : w'.os = C.w.os) (ht : w'.tape = C.w.tape) (hu : w'.output = C.w.output) (hs : C.w.heap.size ≤ w'.heap.size)
    (hk : ∀ b, b < C.w.heap.size → w'.heap[b]? = C.w.heap[b]?) : Le C (C.put w' n B o room b) where
  os := ho
  tape := ht
  output := hu
  X := fun _ h => h
  size := hs
  lp := fun _ _ h => h
  xkeep := fun b hb => hk b (g.xlt b hb)
  keep := fun b' hb hav => by
    refine ⟨hk b' hb, ?_⟩
    rintro ((h | h) | ⟨m, blk, h1, h2⟩)
    · exact hav (.inl (.inl h))
    · exact hav (.inl (.inr h))
    · by_cases hm : m = n
      · subst hm
        simp only [Ctx.put, upd_same] at h2
        omega
      · simp only [Ctx.put, upd_other _ _ hm] at h1 h2
        exact hav (.inr ⟨m, blk, h1, h2⟩)
  born := fun m hm => .inl hm
  ep := fun m b' hm hg => by
    have hne : m ≠ n := fun e => hn (e ▸ hm)
    simp only [Ctx.put, upd_other _ _ hne] at hg
    exact ⟨b', hg, Nat.le_refl _, fun _ => ⟨rfl, rfl, by simp only [Ctx.put, upd_other _ _ hne]⟩⟩
theorem Ctx.put_good {C : Ctx} (g : Good C) (w' : World) (n B o room : Nat) (b : Blk) (hn : ¬ C.born n) (hB : C.w.heap.size ≤ B)
    (ho : w'.os = C.w.os) (ht : w'.tape = C.w.tape) (hu : w'.output = C.w.output) (hs : C.w.heap.size ≤ w'.heap.size)
    (hk : ∀ b, b < C.w.heap.size → w'.heap[b]? = C.w.heap[b]?) (hb : BR (C.put w' n B o room b) n b) : Good (C.put w' n B o room b) where
  blk := fun m c h => by
    by_cases hm : m = n
    · subst hm
      simp only [Ctx.put, upd_same, Option.some.injEq] at h
      subst h
      exact hb
    · have h' : C.get m = some c := by simpa only [Ctx.put, upd_other _ _ hm] using h
      exact (g.blk m c h').mono (Ctx.put_le g w' n B o room b hn hB ho ht hu hs hk) (by simp only [Ctx.put, upd_other _ _ hm]) (hk _ (g.lt h'))
  inj := fun m k c d h1 h2 e => by
    by_cases hm : m = n <;> by_cases hk' : k = n
    · rw [hm, hk']
    · subst hm
      simp only [Ctx.put, upd_same, upd_other _ _ hk'] at h2 e
      have := g.lt h2
      omega
    · subst hk'
      simp only [Ctx.put, upd_same, upd_other _ _ hm] at h1 e
      have := g.lt h1
      omega
    · simp only [Ctx.put, upd_other _ _ hm, upd_other _ _ hk'] at h1 h2 e
      exact g.inj m k c d h1 h2 e
  notX := fun m c h hx => by
    by_cases hm : m = n
    · subst hm
      simp only [Ctx.put, upd_same] at hx
      have := g.xlt _ hx
      omega
    · simp only [Ctx.put, upd_other _ _ hm] at h hx
      exact g.notX m c h hx
  born := fun m c h => by
    by_cases hm : m = n
    · exact .inr hm
    · simp only [Ctx.put, upd_other _ _ hm] at h
      exact .inl (g.born m c h)
  xlt := fun b hb => Nat.lt_of_lt_of_le (g.xlt b hb) hs
  lpn := g.lpn
  lp := fun k l r s h1 h2 => (g.lp k l r s h1 h2).mono (hk _ (g.lp_lt h1)) hs
  lpX := fun k l r h => ⟨(g.lpX k l r h).1, fun m c hg => by
    by_cases hm : m = n
    · subst hm
      simp only [Ctx.put, upd_same]
      have : l < C.w.heap.size := g.lp_lt h
      omega
    · simp only [Ctx.put, upd_other _ _ hm] at hg ⊢
      exact (g.lpX k l r h).2 m c hg⟩
  lpi := g.lpi

/-- An owned block is written: B is where it now lies (its own place, or a block that was not there). -/
def Ctx.wr (C : Ctx) (w' : World) (n B o room : Nat) (b : Blk) : Ctx :=
  { C with w := w', β := upd C.β n (B, o, room), get := upd C.get n (some b) }
theorem Ctx.wr_le {C : Ctx} (g : Good C) (w' : World) (n B o room : Nat) (b b0 : Blk) (h0 : C.get n = some b0) (hB : B = (C.β n).1 ∨ C.w.heap.size ≤ B)
    (hep : b0.ep ≤ b.ep) (hse : b.ep = b0.ep → b.sz = b0.sz ∧ b.es.length = b0.es.length ∧ (B, o, room) = C.β n)
    (ho : w'.os = C.w.os) (ht : w'.tape = C.w.tape) (hu : w'.output = C.w.output) (hs : C.w.heap.size ≤ w'.heap.size)
    (hk : ∀ b, b < C.w.heap.size → b ≠ (C.β n).1 → w'.heap[b]? = C.w.heap[b]?) : Le C (C.wr w' n B o room b) where
  os := ho
  tape := ht
  output := hu
  X := fun _ h => h
  size := hs
  lp := fun _ _ h => h
  xkeep := fun b hb => hk b (g.xlt b hb) (fun e => g.notX n b0 h0 (e ▸ hb))
  keep := fun b' hb hav => by
    have hne : b' ≠ (C.β n).1 := fun e => hav (.inr ⟨n, b0, h0, e.symm⟩)
    refine ⟨hk b' hb hne, ?_⟩
    rintro ((h | h) | ⟨m, blk, h1, h2⟩)
    · exact hav (.inl (.inl h))
    · exact hav (.inl (.inr h))
    · by_cases hm : m = n
      · subst hm
        simp only [Ctx.wr, upd_same] at h2
        rcases hB with hB | hB
        · exact hne (h2.symm.trans hB)
        · omega
      · simp only [Ctx.wr, upd_other _ _ hm] at h1 h2
        exact hav (.inr ⟨m, blk, h1, h2⟩)
  born := fun m hm => hm
  ep := fun m b' hm hg => by
    by_cases hne : m = n
    · subst hne
      simp only [Ctx.wr, upd_same, Option.some.injEq] at hg
      subst hg
      exact ⟨b0, h0, hep, fun e => by simp only [Ctx.wr, upd_same]; exact hse e⟩
    · simp only [Ctx.wr, upd_other _ _ hne] at hg
      exact ⟨b', hg, Nat.le_refl _, fun _ => ⟨rfl, rfl, by simp only [Ctx.wr, upd_other _ _ hne]⟩⟩
theorem Ctx.wr_good {C : Ctx} (g : Good C) (w' : World) (n B o room : Nat) (b b0 : Blk) (h0 : C.get n = some b0) (hB : B = (C.β n).1 ∨ C.w.heap.size ≤ B)
    (hep : b0.ep ≤ b.ep) (hse : b.ep = b0.ep → b.sz = b0.sz ∧ b.es.length = b0.es.length ∧ (B, o, room) = C.β n)
    (ho : w'.os = C.w.os) (ht : w'.tape = C.w.tape) (hu : w'.output = C.w.output) (hs : C.w.heap.size ≤ w'.heap.size)
    (hk : ∀ b, b < C.w.heap.size → b ≠ (C.β n).1 → w'.heap[b]? = C.w.heap[b]?) (hb : BR (C.wr w' n B o room b) n b) : Good (C.wr w' n B o room b) where
  blk := fun m c h => by
    by_cases hm : m = n
    · subst hm
      simp only [Ctx.wr, upd_same, Option.some.injEq] at h
      subst h
      exact hb
    · have h' : C.get m = some c := by simpa only [Ctx.wr, upd_other _ _ hm] using h
      exact (g.blk m c h').mono (Ctx.wr_le g w' n B o room b b0 h0 hB hep hse ho ht hu hs hk) (by simp only [Ctx.wr, upd_other _ _ hm])
        (hk _ (g.lt h') (fun e => hm (g.inj m n c b0 h' h0 e)))
  inj := fun m k c d h1 h2 e => by
    by_cases hm : m = n <;> by_cases hk' : k = n
    · rw [hm, hk']
    · subst hm
      simp only [Ctx.wr, upd_same, upd_other _ _ hk'] at h2 e
      rcases hB with hB | hB
      · exact g.inj m k b0 d h0 h2 (hB.symm.trans e)
      · have := g.lt h2
        omega
    · subst hk'
      simp only [Ctx.wr, upd_same, upd_other _ _ hm] at h1 e
      rcases hB with hB | hB
      · exact g.inj m k c b0 h1 h0 (e.trans hB)
      · have := g.lt h1
        omega
    · simp only [Ctx.wr, upd_other _ _ hm, upd_other _ _ hk'] at h1 h2 e
      exact g.inj m k c d h1 h2 e
  notX := fun m c h hx => by
    by_cases hm : m = n
    · subst hm
      simp only [Ctx.wr, upd_same] at hx
      rcases hB with hB | hB
      · exact g.notX m b0 h0 (hB ▸ hx)
      · have := g.xlt _ hx
        omega
    · simp only [Ctx.wr, upd_other _ _ hm] at h hx
      exact g.notX m c h hx
  born := fun m c h => by
    by_cases hm : m = n
    · subst hm
      exact g.born m b0 h0
    · simp only [Ctx.wr, upd_other _ _ hm] at h
      exact g.born m c h
  xlt := fun b hb => Nat.lt_of_lt_of_le (g.xlt b hb) hs
  lpn := g.lpn
  lp := fun k l r s h1 h2 => (g.lp k l r s h1 h2).mono (hk _ (g.lp_lt h1) (fun e => (g.lpX k l r h1).2 n b0 h0 e.symm)) hs
  lpX := fun k l r h => ⟨(g.lpX k l r h).1, fun m c hg => by
    by_cases hm : m = n
    · subst hm
      simp only [Ctx.wr, upd_same]
      have : l < C.w.heap.size := g.lp_lt h
      rcases hB with hB | hB
      · rw [hB]; exact (g.lpX k l r h).2 m b0 h0
      · omega
    · simp only [Ctx.wr, upd_other _ _ hm] at hg ⊢
      exact (g.lpX k l r h).2 m c hg⟩
  lpi := g.lpi

end Go.Am
