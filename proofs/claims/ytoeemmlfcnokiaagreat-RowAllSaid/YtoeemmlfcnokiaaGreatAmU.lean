/- Loops over the slots that they change; slices that are read, wherever they lie. -/
import Derived.Test.YtoeemmlfcnokiaaGreatAmT
set_option linter.all false
set_option linter.deprecated false
namespace Go.Am

def set2 (c : List (List AV)) (t : Nat) (x : AV) : List (List AV) := c.set (t / 8) ((nth [] c (t / 8)).set (t % 8) x)
def putMany (c : List (List AV)) : List Nat → Nat → List AV → List (List AV)
  | [], _, _ => c
  | t :: W, j, xs => putMany (set2 c t (nth .dead xs j)) W (j + 1) xs
def readMany (c : List (List AV)) : List Nat → List AV
  | [] => []
  | t :: W => nth (.tup []) (nth [] c (t / 8)) (t % 8) :: readMany c W

structure LoopS (n : Nat) (W : List Nat) (cf : List AV → List (List AV)) (P : Nat → List AV → AHeap → Prop) (m : Nat) (Q : AX → St → Prop) (x : AX) (s : St) : Prop where
  q : match x with
  | .normal => ∃ m' xs, m' < m ∧ s.tm = ⟨n, cf xs⟩ ∧ P m' xs s.H
  | x => Q x s
section
variable {E : Env} {rd : Bool} {ys : List (Nat × LRec)} {lo : Nat} {n : Nat} {W : List Nat} {cf : List AV → List (List AV)} {P : Nat → List AV → AHeap → Prop} {m : Nat} {Q : AX → St → Prop} {s : St}
theorem LoopS.again (m' : Nat) {c1 : List (List AV)} {H1 : AHeap} (hx : cf (readMany c1 W) = c1) (hm : m' < m) (h : P m' (readMany c1 W) H1) : LoopS n W cf P m Q .normal ⟨⟨n, c1⟩, H1⟩ := ⟨m', _, hm, by rw [hx], h⟩
theorem LoopS.ret (h : Q .ret s) : LoopS n W cf P m Q .ret s := ⟨h⟩
theorem LoopS.exit {id : Nat} (h : Q (.exit id) s) : LoopS n W cf P m Q (.exit id) s := ⟨h⟩
/-- A loop, by what it changes: the slots W, and the heap. -/
theorem V.lpS {c0 : List (List AV)} {H0 : AHeap} {c : Code} (W : List Nat) (P : Nat → List AV → AHeap → Prop) (m : Nat) (hcf : ∀ xs, putMany c0 W 0 xs = cf xs) (hx0 : cf (readMany c0 W) = c0) (h0 : P m (readMany c0 W) H0)
    (hr : ∀ m xs H, P m xs H → V E rd ys lo c ⟨⟨n, cf xs⟩, H⟩ (LoopS n W cf P m Q)) : V E rd ys lo (.loop c) ⟨⟨n, c0⟩, H0⟩ Q := by
  refine V.lp (fun m s => ∃ xs, s.tm = ⟨n, cf xs⟩ ∧ P m xs s.H) m ⟨_, by rw [hx0], h0⟩ ?_
  rintro m ⟨tm, H⟩ ⟨xs, rfl, h⟩
  refine (hr m xs H h).mono fun x s hq => ⟨?_⟩
  have := hq.q
  cases x with
  | normal => obtain ⟨m', xs, h1, h2, h3⟩ := this; exact ⟨m', h1, xs, h2, h3⟩
  | ret => exact this
  | exit id => exact this
end

/-- The same, where the heap stays. -/
structure LoopF (n : Nat) (W : List Nat) (cf : List AV → List (List AV)) (H0 : AHeap) (P : Nat → List AV → Prop) (m : Nat) (Q : AX → St → Prop) (x : AX) (s : St) : Prop where
  q : match x with
  | .normal => ∃ m' xs, m' < m ∧ s = ⟨⟨n, cf xs⟩, H0⟩ ∧ P m' xs
  | x => Q x s
section
variable {E : Env} {rd : Bool} {ys : List (Nat × LRec)} {lo : Nat} {n : Nat} {W : List Nat} {cf : List AV → List (List AV)} {H0 : AHeap} {P : Nat → List AV → Prop} {m : Nat} {Q : AX → St → Prop} {s : St}
theorem LoopF.again (m' : Nat) {c1 : List (List AV)} (hx : cf (readMany c1 W) = c1) (hm : m' < m) (h : P m' (readMany c1 W)) : LoopF n W cf H0 P m Q .normal ⟨⟨n, c1⟩, H0⟩ := ⟨m', _, hm, by rw [hx], h⟩
theorem LoopF.ret (h : Q .ret s) : LoopF n W cf H0 P m Q .ret s := ⟨h⟩
theorem LoopF.exit {id : Nat} (h : Q (.exit id) s) : LoopF n W cf H0 P m Q (.exit id) s := ⟨h⟩
theorem V.lpF {c0 : List (List AV)} {c : Code} (W : List Nat) (P : Nat → List AV → Prop) (m : Nat) (hcf : ∀ xs, putMany c0 W 0 xs = cf xs) (hx0 : cf (readMany c0 W) = c0) (h0 : P m (readMany c0 W))
    (hr : ∀ m xs, P m xs → V E rd ys lo c ⟨⟨n, cf xs⟩, H0⟩ (LoopF n W cf H0 P m Q)) : V E rd ys lo (.loop c) ⟨⟨n, c0⟩, H0⟩ Q := by
  refine V.lp (fun m s => ∃ xs, s = ⟨⟨n, cf xs⟩, H0⟩ ∧ P m xs) m ⟨_, by rw [hx0], h0⟩ ?_
  rintro m s ⟨xs, rfl, h⟩
  refine (hr m xs h).mono fun x s hq => ⟨?_⟩
  have := hq.q
  cases x with
  | normal => obtain ⟨m', xs, h1, h2, h3⟩ := this; exact ⟨m', h1, xs, h2, h3⟩
  | ret => exact this
  | exit id => exact this
end
theorem ite_ok {α : Type} {c : Prop} [Decidable c] {a b : α} {x : Option α} (h : c) (hab : some a = x) : (if c then some a else none) = x := by rw [if_pos h]; exact hab
/-! Read-only traces. -/
def RoT (t : Tr) : Prop := t.wr = 0 ∧ (t.all = 0 ∨ t.all = 1)
theorem clash_ro {x y : Tr} (hx : RoT x) (hy : RoT y) : clash x y = false := by
  obtain ⟨a, b, c⟩ := x
  obtain ⟨d, e, f⟩ := y
  obtain ⟨h1, h2⟩ := hx
  obtain ⟨h3, h4⟩ := hy
  simp only at h1 h2 h3 h4
  subst h1 h3
  have z : ∀ n : Nat, Nat.land 0 n = 0 := fun n => Nat.zero_and n
  rcases h2 with rfl | rfl <;> rcases h4 with rfl | rfl <;> simp [clash, z] <;> decide
theorem okPairs_ro : ∀ (T : List Tr) (as : List Nat) (i : Nat) (pre : List (Nat × Tr)), T.length ≤ as.length → (∀ t ∈ T, RoT t) → (∀ p ∈ pre, RoT p.2) → okPairs as T i pre = true := by
  intro T
  induction T with
  | nil => intros; simp [okPairs]
  | cons x T ih =>
    intro as i pre hl hT hp
    cases as with
    | nil => simp at hl
    | cons s as =>
      simp only [List.length_cons, Nat.add_le_add_iff_right] at hl
      have hx := hT x List.mem_cons_self
      have hT' : ∀ t ∈ T, RoT t := fun t ht => hT t (List.mem_cons_of_mem _ ht)
      simp only [okPairs, fNat_eq]
      split
      · exact ih as _ _ hl hT' hp
      · have : (pre.all fun p => bit s p.1 || !clash p.2 x) = true := List.all_eq_true.2 fun p hpm => by rw [clash_ro (hp p hpm) hx]; simp
        rw [this]
        exact ih as _ _ hl hT' fun p hpm => by
          rcases List.mem_cons.1 hpm with rfl | hpm
          · exact hx
          · exact hp p hpm
inductive RoTs : List Tr → Prop
  | nil : RoTs []
  | cons {t : Tr} {T : List Tr} : RoT t → RoTs T → RoTs (t :: T)
theorem RoTs.mem {T : List Tr} (h : RoTs T) : ∀ t ∈ T, RoT t := by
  induction h with
  | nil => intro t h; cases h
  | cons h _ ih =>
    intro t ht
    rcases List.mem_cons.1 ht with rfl | ht
    · exact h
    · exact ih t ht
theorem okPairs_roTs {T : List Tr} {as : List Nat} (h : RoTs T) (hl : Nat.ble T.length as.length = true) : okPairs as T 0 [] = true := okPairs_ro T as 0 [] (Nat.le_of_ble_eq_true hl) h.mem fun p hp => by cases hp
theorem RoT.zero : RoT ⟨0, 0, 0⟩ := ⟨rfl, .inl rfl⟩
theorem RoT.rd {m : Nat} : RoT ⟨m, 0, 0⟩ := ⟨rfl, .inl rfl⟩
theorem RoT.all {m : Nat} : RoT ⟨m, 0, 1⟩ := ⟨rfl, .inr rfl⟩

/-- Which operations only read. -/
inductive Kinds : List Tr → List Bool → Prop
  | nil : Kinds [] []
  | ro {t : Tr} {T : List Tr} {K : List Bool} : RoT t → Kinds T K → Kinds (t :: T) (true :: K)
  | any {t : Tr} {T : List Tr} {K : List Bool} : Kinds T K → Kinds (t :: T) (false :: K)
def okK : List Nat → List Bool → Nat → List (Nat × Bool) → Bool
  | _, [], _, _ => true
  | [], _ :: _, _, _ => false
  | a :: as, k :: ks, i, pre => (pre.all fun p => bit a p.1 || (p.2 && k)) && okK as ks (i + 1) ((i, k) :: pre)
theorem okPairs_kinds' {T : List Tr} {K : List Bool} (h : Kinds T K) : ∀ (as : List Nat) (i : Nat) (pre : List (Nat × Tr)) (preK : List (Nat × Bool)), okK as K i preK = true →
    (∀ p ∈ pre, ∃ k, (p.1, k) ∈ preK ∧ (k = true → RoT p.2)) → okPairs as T i pre = true := by
  have step : ∀ (t : Tr) (k : Bool) (hk : k = true → RoT t) (T : List Tr) (K : List Bool), (∀ (as : List Nat) (i : Nat) (pre : List (Nat × Tr)) (preK : List (Nat × Bool)), okK as K i preK = true →
      (∀ p ∈ pre, ∃ k, (p.1, k) ∈ preK ∧ (k = true → RoT p.2)) → okPairs as T i pre = true) → ∀ (as : List Nat) (i : Nat) (pre : List (Nat × Tr)) (preK : List (Nat × Bool)), okK as (k :: K) i preK = true →
      (∀ p ∈ pre, ∃ k, (p.1, k) ∈ preK ∧ (k = true → RoT p.2)) → okPairs as (t :: T) i pre = true := by
    intro t k hk T K ih as i pre preK h hp
    cases as with
    | nil => simp [okK] at h
    | cons a as =>
      simp only [okK, Bool.and_eq_true] at h
      simp only [okPairs, fNat_eq]
      split
      · exact ih as _ _ _ h.2 fun p hpm => by
          obtain ⟨k', h1, h2⟩ := hp p hpm
          exact ⟨k', List.mem_cons_of_mem _ h1, h2⟩
      · have : (pre.all fun p => bit a p.1 || !clash p.2 t) = true := List.all_eq_true.2 fun p hpm => by
          obtain ⟨k', h1, h2⟩ := hp p hpm
          have h3 := List.all_eq_true.1 h.1 _ h1
          simp only [Bool.or_eq_true, Bool.and_eq_true] at h3
          rcases h3 with h3 | ⟨h3, h4⟩
          · rw [h3]; rfl
          · rw [clash_ro (h2 h3) (hk h4)]; simp
        rw [this]
        exact ih as _ _ _ h.2 fun p hpm => by
          rcases List.mem_cons.1 hpm with rfl | hpm
          · exact ⟨k, List.mem_cons_self, hk⟩
          · obtain ⟨k', h1, h2⟩ := hp p hpm
            exact ⟨k', List.mem_cons_of_mem _ h1, h2⟩
  induction h with
  | nil => intros; simp [okPairs]
  | @ro t T K ht _ ih => exact step t true (fun _ => ht) T K ih
  | @any t T K _ ih => exact step t false (fun h => by cases h) T K ih
theorem okPairs_kinds {T : List Tr} {K : List Bool} {as : List Nat} (h : Kinds T K) (hk : okK as K 0 [] = true) : okPairs as T 0 [] = true := okPairs_kinds' h as 0 [] [] hk fun p hp => by cases hp

/-! Slices that are read: frozen, nil, or owned. -/
def SlH (H : AHeap) (sz : Nat) (x : AV) (es : List (List AV)) : Prop :=
  Sl sz x es ∨ ∃ n e off b, x = .os n e off es.length ∧ n < H.next ∧ H.get n = some b ∧ b.ep = e ∧ b.it = none ∧ b.sz = sz ∧ off + es.length ≤ b.es.length ∧ (b.es.drop off).take es.length = es
def rdTr (x : AV) : Tr := match x with
  | .os n _ _ _ => ⟨bitsOf [n], 0, 0⟩
  | _ => ⟨0, 0, 0⟩
theorem RoT.rdTr (x : AV) : RoT (rdTr x) := by cases x <;> exact ⟨rfl, .inl rfl⟩
theorem SlH.sl {H : AHeap} {sz : Nat} {x : AV} {es : List (List AV)} (h : Sl sz x es) : SlH H sz x es := .inl h
theorem SlH.push {H : AHeap} {sz : Nat} {x : AV} {es : List (List AV)} (h : SlH H sz x es) (b : Blk) : SlH (H.push b) sz x es := by
  rcases h with h | ⟨n, e, off, b', h1, h2, h3, h4⟩
  · exact .inl h
  · exact .inr ⟨n, e, off, b', h1, Nat.lt_succ_of_lt h2, by rw [get_push, if_neg (by omega)]; exact h3, h4⟩
theorem SlH.set {H : AHeap} {sz : Nat} {x : AV} {es : List (List AV)} (h : SlH H sz x es) (m : Nat) (b : Blk) (hm : ∀ n e off len, x = .os n e off len → m ≠ n) : SlH (H.set m b) sz x es := by
  rcases h with h | ⟨n, e, off, b', h1, h2, h3, h4⟩
  · exact .inl h
  · exact .inr ⟨n, e, off, b', h1, h2, by rw [get_set, if_neg (hm _ _ _ _ h1)]; exact h3, h4⟩
section
variable (E : Env) (lo : Nat) {H : AHeap} {sz : Nat} {x : AV} {es : List (List AV)}
theorem len_SlH (t ty : TypeId) (hx : SlH H sz x es) (h : isSlT E.P t = true) : primL lo H (builtinA E .len #[t] ty [x]) = some (.v (.int .i64 es.length), H, rdTr x) := by
  rcases hx with hx | ⟨n, e, off, b, rfl, _, hb, he, hi, hs, ho, ht⟩
  · rw [len_Sl E lo H t ty hx h]
    rcases hx with rfl | ⟨rfl, rfl | rfl⟩ <;> rfl
  · rw [len_os E lo H t ty n e off es.length h, hb]
    have hit : b.it.isNone = true := by rw [hi]; rfl
    simp only [Option.bind_some, sliceElems]
    rw [if_pos ⟨he, ho, hit⟩, Option.bind_some, ht]; rfl
/-- What an element's address is. -/
def ixA (x : AV) (es : List (List AV)) (i : Nat) : AV := match x with
  | .os n e off _ => .op n e (off + i) 0
  | _ => .fp (nth [] es i)
theorem index_SlH (t : TypeId) (κ : IntKind) (i : Int) (hx : SlH H sz x es) (h : slSz E.P t = some sz) (h0 : 0 ≤ i) (h1 : i < es.length) : primL lo H (indexAddrA E t x (.v (.int κ i))) = some (ixA x es i.toNat, H, rdTr x) := by
  rcases hx with hx | ⟨n, e, off, b, rfl, _, hb, he, hi, hs, ho, ht⟩
  · rw [index_Sl E lo H t κ i hx h, if_pos ⟨h0, h1⟩]
    rcases hx with rfl | ⟨rfl, rfl | rfl⟩ <;> rfl
  · rw [indexAddrA_os E lo H t n e off es.length κ i h, hb]
    simp only [Option.bind_some]
    rw [if_pos ⟨he, by rw [hi]; rfl, ho, hs, h0, by exact_mod_cast h1⟩]; rfl
theorem nth_take_drop {α : Type} (d : α) (l es : List α) (off i : Nat) (ht : (l.drop off).take es.length = es) (hi : i < es.length) : nth d l (off + i) = nth d es i := by
  rw [nth_getD, nth_getD]
  conv => rhs; rw [← ht]
  rw [List.getD_eq_getElem?_getD, List.getD_eq_getElem?_getD, List.getElem?_take_of_lt hi, List.getElem?_drop]
theorem load_SlH (t : TypeId) (i : Nat) (hx : SlH H sz x es) (h1 : i < es.length) : primL lo H (loadA E t (ixA x es i)) = (partA E.P t (nth [] es i)).map fun y => (y, H, rdTr x) := by
  rcases hx with hx | ⟨n, e, off, b, rfl, _, hb, he, hi, hs, ho, ht⟩
  · have : ixA x es i = .fp (nth [] es i) := by rcases hx with rfl | ⟨rfl, rfl | rfl⟩ <;> rfl
    have hr : rdTr x = ⟨0, 0, 0⟩ := by rcases hx with rfl | ⟨rfl, rfl | rfl⟩ <;> rfl
    rw [this, loadA_fp, hr]
    cases partA E.P t (nth [] es i) <;> rfl
  · show primL lo H (loadA E t (.op n e (off + i) 0)) = _
    rw [loadA_op, hb]
    simp only [Option.bind_some, List.drop_zero]
    rw [if_pos ⟨he, by rw [hi]; rfl, by omega, Nat.zero_le _⟩, nth_take_drop [] b.es es off i ht h1]; rfl
theorem nf_SlH_empty (hx : SlH H sz x es) (hn : nf x = true) : SlH .empty sz x es := by
  rcases hx with hx | ⟨n, e, off, b, rfl, _⟩
  · exact .inl hx
  · cases hn
end

/-! Appending, cutting. -/
def appInfo (P : Program) (t : TypeId) : Option (TypeId × Nat × Nat) := match P.underlying t with
  | some (.slice elem) => match infoBytes P elem, infoSize P elem, zeroCells P elem with
    | some bytes, some size, some z => if size = 0 ∨ bytes = 0 ∨ z.length ≠ size then none else some (elem, bytes, size)
    | _, _, _ => none
  | _ => none
theorem appInfo_ok {P : Program} {t elem bytes size : Nat} (h : appInfo P t = some (elem, bytes, size)) : ∃ z, P.underlying t = some (.slice elem) ∧ infoBytes P elem = some bytes ∧ infoSize P elem = some size ∧ zeroCells P elem = some z ∧ ¬ (size = 0 ∨ bytes = 0 ∨ z.length ≠ size) := by
  unfold appInfo at h
  split at h
  · rename_i e h1
    split at h
    · rename_i b s z h2 h3 h4
      split at h
      · cases h
      · rename_i hn
        simp only [Option.some.injEq, Prod.mk.injEq] at h
        obtain ⟨rfl, rfl, rfl⟩ := h
        exact ⟨z, h1, h2, h3, h4, hn⟩
    · cases h
  · cases h
theorem sl_nil_length {es : List (List AV)} : es.isEmpty = true ↔ es = [] := List.isEmpty_iff
section
variable (E : Env) (lo : Nat) {H : AHeap} {x : AV} {es : List (List AV)} {t elem bytes size : Nat}
theorem builtin_append (t ty : TypeId) (s x : AV) : builtinA E .append #[t, t] ty [s, x] = appendA E t s x := by simp [builtinA]
/-- s: nil or empty. -/
theorem append_new {s : AV} (hs : s = .e0 ∨ s = .v (.slice none 0 0)) (h : appInfo E.P t = some (elem, bytes, size)) (hx : SlH H size x es) (h0 : es ≠ []) (hr : es.length * bytes ≤ roomMax) : primL lo H (appendA E t s x) = some (.os H.next 0 0 es.length, H.push ⟨elem, size, 0, es, none⟩, ⟨(rdTr x).rd, 2 ^ H.next, 0⟩) := by
  obtain ⟨z, h1, h2, h3, h4, h5⟩ := appInfo_ok h
  have he : es.isEmpty = false := by cases es with | nil => exact absurd rfl h0 | cons => rfl
  have e : appendA E t s x = srd x fun sz new => if new.isEmpty then some (.none s) else if new.length * bytes ≤ roomMax ∧ sz = size then some (.new { elem, sz := size, ep := 0, es := new } fun n => .os n 0 0 new.length) else none := by
    rcases hs with rfl | rfl <;> simp only [appendA, h1, h2, h3, h4, if_neg h5]
  rw [e]
  rcases hx with (rfl | ⟨rfl, _⟩) | ⟨n, e, off, b, rfl, _, hb, he', hi, hsz, ho, ht⟩
  · simp only [srd, primL_prim0, he, Bool.false_eq_true, if_false]
    rw [if_pos ⟨hr, trivial⟩]; rfl
  · exact absurd rfl h0
  · have hit : b.it.isNone = true := by rw [hi]; rfl
    simp only [srd, primL_prim1, hb, Option.bind_some, sliceElems]
    rw [if_pos ⟨he', ho, hit⟩, Option.bind_some, ht, he, hsz]
    simp only [Bool.false_eq_true, if_false]
    rw [if_pos ⟨hr, trivial⟩]; rfl
theorem append_new0 {s : AV} (hs : s = .e0 ∨ s = .v (.slice none 0 0)) (h : appInfo E.P t = some (elem, bytes, size)) (hx : SlH H size x []) : primL lo H (appendA E t s x) = some (s, H, rdTr x) := by
  obtain ⟨z, h1, h2, h3, h4, h5⟩ := appInfo_ok h
  have e : appendA E t s x = srd x fun sz new => if new.isEmpty then some (.none s) else if new.length * bytes ≤ roomMax ∧ sz = size then some (.new { elem, sz := size, ep := 0, es := new } fun n => .os n 0 0 new.length) else none := by
    rcases hs with rfl | rfl <;> simp only [appendA, h1, h2, h3, h4, if_neg h5]
  rw [e]
  rcases hx with (rfl | ⟨_, rfl | rfl⟩) | ⟨n, e, off, b, rfl, _, hb, he', hi, hsz, ho, ht⟩
  · rfl
  · rfl
  · rfl
  · have hit : b.it.isNone = true := by rw [hi]; rfl
    simp only [srd, primL_prim1, hb, Option.bind_some, sliceElems]
    rw [if_pos ⟨he', ho, hit⟩, Option.bind_some, ht]; rfl
/-- s: owned. -/
theorem append_os {n e off len : Nat} {b : Blk} (h : appInfo E.P t = some (elem, bytes, size)) (hb : H.get n = some b) (hbe : b.ep = e ∧ b.it = none ∧ off + len ≤ b.es.length ∧ b.sz = size ∧ b.elem = elem) (hx : SlH H size x es) (hn : ∀ m e off len, x = .os m e off len → n ≠ m) (h0 : es ≠ []) (hr : (len + es.length) * bytes ≤ roomMax) (hlo : lo ≤ n) :
    ∃ tr, primL lo H (appendA E t (.os n e off len) x) = some (.os n (e + 1) 0 (len + es.length), H.set n ⟨elem, size, e + 1, (b.es.drop off).take len ++ es, none⟩, tr) := by
  obtain ⟨z, h1, h2, h3, h4, h5⟩ := appInfo_ok h
  obtain ⟨g1, g2, g3, g4, g5⟩ := hbe
  have he : es.isEmpty = false := by cases es with | nil => exact absurd rfl h0 | cons => rfl
  have hit : b.it.isNone = true := by rw [g2]; rfl
  obtain ⟨belem, bsz, bep, bes, bit⟩ := b
  simp only at g1 g2 g3 g4 g5
  subst g1 g2 g4 g5
  rcases hx with (rfl | ⟨rfl, _⟩) | ⟨m, e', off', c, rfl, _, hc, he', hi, hsz, ho, ht⟩
  · refine ⟨⟨bitsOf [n], 2 ^ n, 0⟩, ?_⟩
    simp only [appendA, h1, h2, h3, h4, if_neg h5, primL_prim1, hb, Option.bind_some]
    rw [if_pos (by exact ⟨trivial, hit, g3, trivial, trivial⟩), he]
    simp only [Bool.false_eq_true, if_false]
    rw [if_pos ⟨hr, trivial⟩]
    simp only [Option.bind_some, effL_set, if_pos hlo]
  · exact absurd rfl h0
  · have hit' : c.it.isNone = true := by rw [hi]; rfl
    refine ⟨⟨bitsOf [n, m], 2 ^ n, 0⟩, ?_⟩
    simp only [appendA, h1, h2, h3, h4, if_neg h5, primL_prim2, hb, hc, Option.bind_some, if_neg (hn _ _ _ _ rfl), sliceElems]
    rw [if_pos ⟨he', ho, hit'⟩, Option.bind_some, ht, if_pos (by exact ⟨trivial, hit, g3, trivial, trivial⟩), he]
    simp only [Bool.false_eq_true, if_false]
    rw [if_pos ⟨hr, hsz⟩]
    simp only [Option.bind_some, effL_set', if_pos hlo]
/-- Whatever s is: nothing is appended. -/
theorem append_os0 {n e off len : Nat} {b : Blk} (h : appInfo E.P t = some (elem, bytes, size)) (hb : H.get n = some b) (hbe : b.ep = e ∧ b.it = none ∧ off + len ≤ b.es.length ∧ b.sz = size ∧ b.elem = elem) (hx : SlH H size x []) (hn : ∀ m e off len, x = .os m e off len → n ≠ m) :
    ∃ tr, RoT tr ∧ primL lo H (appendA E t (.os n e off len) x) = some (.os n e off len, H, tr) := by
  obtain ⟨z, h1, h2, h3, h4, h5⟩ := appInfo_ok h
  obtain ⟨g1, g2, g3, g4, g5⟩ := hbe
  have hit : b.it.isNone = true := by rw [g2]; rfl
  rcases hx with (rfl | ⟨_, rfl | rfl⟩) | ⟨m, e', off', c, rfl, _, hc, he', hi, hsz, ho, ht⟩
  · refine ⟨⟨bitsOf [n], 0, 0⟩, RoT.rd, ?_⟩
    · simp only [appendA, h1, h2, h3, h4, if_neg h5, primL_prim1, hb, Option.bind_some]
      rw [if_pos ⟨g1, hit, g3, g4, g5⟩]; rfl
  · refine ⟨⟨bitsOf [n], 0, 0⟩, RoT.rd, ?_⟩
    · simp only [appendA, h1, h2, h3, h4, if_neg h5, primL_prim1, hb, Option.bind_some]
      rw [if_pos ⟨g1, hit, g3, g4, g5⟩]; rfl
  · refine ⟨⟨bitsOf [n], 0, 0⟩, RoT.rd, ?_⟩
    · simp only [appendA, h1, h2, h3, h4, if_neg h5, primL_prim1, hb, Option.bind_some]
      rw [if_pos ⟨g1, hit, g3, g4, g5⟩]; rfl
  · have hit' : c.it.isNone = true := by rw [hi]; rfl
    refine ⟨⟨bitsOf [n, m], 0, 0⟩, RoT.rd, ?_⟩
    · simp only [appendA, h1, h2, h3, h4, if_neg h5, primL_prim2, hb, hc, Option.bind_some, if_neg (hn _ _ _ _ rfl), sliceElems]
      rw [if_pos ⟨he', ho, hit'⟩, Option.bind_some, ht, if_pos ⟨g1, hit, g3, g4, g5⟩]; rfl
/-- A frozen slice, cut. -/
def cutA (x : AV) (lo hi : Nat) : AV := match x with
  | .sl sz es => .sl sz ((es.drop lo).take (hi - lo))
  | .os n e off _ => .os n e (off + lo) (hi - lo)
  | x => x
theorem cutA_SlH {sz lo hi : Nat} (hx : SlH H sz x es) (h1 : lo ≤ hi) (h2 : hi ≤ es.length) : SlH H sz (cutA x lo hi) ((es.drop lo).take (hi - lo)) := by
  rcases hx with (rfl | ⟨rfl, rfl | rfl⟩) | ⟨m, e', off', c, rfl, hl, hc, he', hi', hsz, ho, ht⟩
  · exact .inl (.inl rfl)
  · exact .inl (.inr ⟨by simp, .inl rfl⟩)
  · exact .inl (.inr ⟨by simp, .inr rfl⟩)
  · have hlen : ((es.drop lo).take (hi - lo)).length = hi - lo := by simp; omega
    refine .inr ⟨m, e', off' + lo, c, by rw [hlen]; rfl, hl, hc, he', hi', hsz, by rw [hlen]; omega, ?_⟩
    rw [hlen]
    conv => rhs; rw [← ht]
    rw [List.drop_take, List.take_take, List.drop_drop, Nat.min_eq_left (by omega)]
theorem cutA_Sl {sz lo hi : Nat} (hx : Sl sz x es) : Sl sz (cutA x lo hi) ((es.drop lo).take (hi - lo)) := by
  rcases hx with rfl | ⟨rfl, rfl | rfl⟩
  · exact .inl rfl
  · exact .inr ⟨by simp, .inl rfl⟩
  · exact .inr ⟨by simp, .inr rfl⟩
end
theorem bound_none (d : Nat) : bound? none d = some d := rfl
theorem bound_some (κ : IntKind) (i : Int) (d : Nat) (h : 0 ≤ i) : bound? (some (.v (.int κ i))) d = some i.toNat := by simp only [bound?, if_pos h]
theorem slice_SlH (E : Env) (lo : Nat) {H : AHeap} {x : AV} {es : List (List AV)} {t size : Nat} (h : slSz E.P t = some size) (hx : SlH H size x es) (a b : Option AV) {l r : Nat} (ha : bound? a 0 = some l) (hb : bound? b es.length = some r) (h1 : l ≤ r) (h2 : r ≤ es.length) : primL lo H (sliceA E t x a b none) = some (cutA x l r, H, rdTr x) := by
  obtain ⟨e, h3, h4⟩ := slSz_ok h
  rcases hx with (rfl | ⟨rfl, rfl | rfl⟩) | ⟨n, e', off, c, rfl, _, hc, he, hi, hsz, ho, ht⟩
  · simp only [sliceA, h3, h4, ha, hb]
    rw [if_pos (by exact ⟨h1, h2, trivial⟩)]; rfl
  · have hr : r = 0 := by simpa using h2
    subst hr
    have hl : l = 0 := by omega
    subst hl
    simp only [sliceA, h3, h4, ha]
    have : bound? b 0 = some 0 := hb
    rw [this]; rfl
  · have hr : r = 0 := by simpa using h2
    subst hr
    have hl : l = 0 := by omega
    subst hl
    simp only [sliceA, h3, h4, ha]
    have : bound? b 0 = some 0 := hb
    rw [this]; rfl
  · have hit : c.it.isNone = true := by rw [hi]; rfl
    simp only [sliceA, h3, h4, ha, hb, primL_prim1, hc, Option.bind_some]
    rw [if_pos ⟨he, hit, h1, by omega, hsz, ho⟩]; rfl

def convA1 : Env → TypeId → TypeId → AV → Plan := convA
theorem conv_osM (E : Env) (lo : Nat) (H : AHeap) (src dst : TypeId) (n e off len : Nat) : primL lo H (convA E src dst (.os n e off len)) = match E.P.underlying src with
    | some (.slice el) => if (isStrT E.P dst && isU8T E.P el) = true then (H.get n).bind fun b => (sliceElems b e off len).bind fun es => (numsOf .u8 es).bind fun l => some (.v (.string (strOfNums l)), H, ⟨bitsOf [n], 0, 0⟩) else none
    | _ => none := by
  simp only [convA]
  cases E.P.underlying src with
  | none => rfl
  | some u =>
    cases u with
    | slice el =>
      dsimp only
      split
      · simp only [srd, primL_prim1]
        cases H.get n with
        | none => rfl
        | some b =>
          simp only [Option.bind_some]
          cases sliceElems b e off len with
          | none => rfl
          | some es => simp only [Option.bind_some]; cases numsOf .u8 es <;> rfl
      · rfl
    | _ => rfl
theorem numsOf_nil (k : IntKind) : numsOf k [] = some [] := rfl
theorem numsOf_cons (n : Int) (r : List (List AV)) : numsOf .u8 ([.v (.int .u8 n)] :: r) = (numsOf .u8 r).map (n :: ·) := rfl
theorem i32_ne (a b : Int) (h : b ≠ 0) : b ≠ 0 := h
theorem FnQ.retB {E : Env} {fn : Func} {s : St} {K : AV → AHeap → Prop} {x : Option AV} {r : AV} (hr : resultsA E.P fn s = x) (he : x = some r) (h : K r s.H) : FnQ E fn K .ret s := ⟨r, by rw [hr, he], h⟩
theorem FnQ.normB {E : Env} {fn : Func} {s : St} {K : AV → AHeap → Prop} {x : Option AV} {r : AV} (hr : resultsA E.P fn s = x) (he : x = some r) (h : K r s.H) : FnQ E fn K .normal s := ⟨r, by rw [hr, he], h⟩
theorem wantU {o : Oper} {ops : List Oper} {tm : Slots} {j t : Nat} {want : Bool} (hg : o.guard = some (j, want)) (hj : (ops[j]?).bind (·.dst) = some t) (ht : tm.get t = .tup []) : wantedA o ops tm = some false := by
  simp only [wantedA, hg, hj, ht]
theorem wantNo {o : Oper} {ops : List Oper} {tm : Slots} {b : Bool} (h : wantedA o ops tm = some b) (hb : b = false) : wantedA o ops tm = some false := by rw [h, hb]
theorem cells_v (x : Value) : cellsOf (.v x) = some [.v x] := rfl
theorem cells_os (n e o l : Nat) : cellsOf (.os n e o l) = some [.os n e o l] := rfl
theorem cells_op (n e o l : Nat) : cellsOf (.op n e o l) = some [.op n e o l] := rfl
theorem cells_sl (n : Nat) (es : List (List AV)) : cellsOf (.sl n es) = some [.sl n es] := rfl
theorem cells_fp (es : List AV) : cellsOf (.fp es) = some [.fp es] := rfl
theorem cells_agg (es : List AV) : cellsOf (.agg es) = some es := rfl
theorem cells_e0 : cellsOf .e0 = some [.e0] := rfl
theorem cells_fn (f : FuncId) (es : List AV) : cellsOf (.fn f es) = some [.fn f es] := rfl
theorem eqPlan_opM (E : Env) (t : TypeId) (neg : Bool) (n e i j : Nat) : eqPlan E t neg (.op n e i j) (.v (.pointer none)) = match E.P.underlying t with
    | some (.pointer _) => live n e (.v (.bool neg))
    | _ => .bad := by
  simp only [eqPlan]; cases E.P.underlying t with
  | none => rfl
  | some u => cases u <;> rfl
theorem eqPlan_fpM (E : Env) (t : TypeId) (neg : Bool) (cs : List AV) : eqPlan E t neg (.fp cs) (.v (.pointer none)) = match E.P.underlying t with
    | some (.pointer _) => .val (.v (.bool neg))
    | _ => .bad := by
  simp only [eqPlan]; cases E.P.underlying t with
  | none => rfl
  | some u => cases u <;> rfl
def binB0 : Env → BinOp → TypeId → Operand → Operand → AV → AV → Plan := binOpA
theorem bin_pnilM (E : Env) (t : TypeId) (xo yo : Operand) : binOpA E .eql t xo yo (.v (.pointer none)) (.v (.pointer none)) = match E.P.underlying t with
    | some (.pointer _) => .val (.v (.bool true))
    | _ => binB0 E .eql t xo yo (.v (.pointer none)) (.v (.pointer none)) := by
  split
  · rename_i u h; exact bin_pnil E t xo yo h
  · rfl
theorem bin_beqM (E : Env) (t : TypeId) (xo yo : Operand) (a b : Bool) : binOpA E .eql t xo yo (.v (.bool a)) (.v (.bool b)) = match E.P.underlying t with
    | some .bool => .val (.v (.bool (a == b)))
    | _ => binB0 E .eql t xo yo (.v (.bool a)) (.v (.bool b)) := by
  split
  · rename_i h; exact bin_beq E t xo yo a b h
  · rfl
theorem bin_bneM (E : Env) (t : TypeId) (xo yo : Operand) (a b : Bool) : binOpA E .neq t xo yo (.v (.bool a)) (.v (.bool b)) = match E.P.underlying t with
    | some .bool => .val (.v (.bool (!(a == b))))
    | _ => binB0 E .neq t xo yo (.v (.bool a)) (.v (.bool b)) := by
  split
  · rename_i h; exact bin_bne E t xo yo a b h
  · rfl
def convA0 : Env → TypeId → TypeId → AV → Plan := convA
theorem conv_int (E : Env) (src dst : TypeId) (k : IntKind) (n : Int) : convA E src dst (.v (.int k n)) = match E.P.underlying src, E.P.underlying dst with
    | some _, some (.int k') => .val (.v (.int k' (k'.wrap n)))
    | _, _ => convA0 E src dst (.v (.int k n)) := by
  split
  · rename_i u k' h1 h2
    exact convA_int E src dst k k' n (by rw [h1]; rfl) h2
  · rfl

/-- A pure call, wherever its arguments lie: on the caller's heap, or, if they bear no names, on none. -/
theorem WC.pureAny {E : Env} {ys : List (Nat × LRec)} {lo : Nat} {f : FuncId} {args : List AV} {H : AHeap} {x : AV} (hpol : E.pol f = .pure)
    (hc : ∀ lo' H', (lo' = H.next ∧ H' = H) ∨ (lo' = 0 ∧ H' = .empty ∧ args.all nf = true) → WC E [] lo' f args H' fun r H'' => frzR H'' lo' r = x) : ∃ tr, RoT tr ∧ CallR E ys lo f args H x H tr := by
  cases hn : args.all nf with
  | true => exact ⟨_, RoT.zero, WC.pure' hpol hn (hc 0 .empty (.inr ⟨rfl, rfl, hn⟩)) ys lo H⟩
  | false =>
    obtain ⟨y, rfl, h⟩ := WC.pureH (K := fun y => y = x) hpol hn (hc H.next H (.inl ⟨rfl, rfl⟩))
    exact ⟨_, RoT.all, h⟩
end Go.Am
