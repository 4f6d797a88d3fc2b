/- A region that draws its order: whatever order comes up, the state is the one that the text's order gives. -/
import Derived.Test.YtoeemmlfcnokiaaGreatAmRun11
import Derived.OrdersIn
set_option linter.all false
set_option linter.deprecated false
namespace Go.Am

/-! A place: its values at the steps of the text's order; the operations that write it. -/
section place
variable {α : Type} {L : Nat} {val : Nat → α} {W : Nat → Prop}
theorem place_up (hfr : ∀ k, k < L → ¬ W k → val (k + 1) = val k) (a d : Nat) (h : a + d ≤ L) (hw : ∀ j, a ≤ j → j < a + d → ¬ W j) : val (a + d) = val a := by
  induction d with
  | zero => rfl
  | succ d ih => rw [show a + (d + 1) = a + d + 1 by omega, hfr (a + d) (by omega) (hw _ (by omega) (by omega)), ih (by omega) fun j h1 h2 => hw j h1 (by omega)]
theorem place_eq (hfr : ∀ k, k < L → ¬ W k → val (k + 1) = val k) {a b : Nat} (ha : a ≤ L) (hb : b ≤ L) (h : ∀ j, j < L → W j → (j < a ↔ j < b)) : val a = val b := by
  rcases Nat.le_total a b with hab | hab
  · have := place_up hfr a (b - a) (by omega) fun j h1 h2 hw => by have := h j (by omega) hw; omega
    rw [show a + (b - a) = b by omega] at this
    exact this.symm
  · have := place_up hfr b (a - b) (by omega) fun j h1 h2 hw => by have := h j (by omega) hw; omega
    rw [show b + (a - b) = a by omega] at this
    exact this
/-- A place, when the operations of S were run. -/
def At (L : Nat) (val : Nat → α) (W S : Nat → Prop) (R : α → Prop) : Prop := ∃ k, k ≤ L ∧ (∀ j, j < L → W j → (S j ↔ j < k)) ∧ R (val k)
variable {S S' : Nat → Prop} {R R' : α → Prop}
theorem At.read (hfr : ∀ k, k < L → ¬ W k → val (k + 1) = val k) {i : Nat} (hi : i < L) (hS : ∀ j, j < L → W j → (S j ↔ j < i)) (h : At L val W S R) : R (val i) := by
  obtain ⟨k, hk, hj, hr⟩ := h
  rw [place_eq hfr (Nat.le_of_lt hi) hk fun j h1 h2 => (hS j h1 h2).symm.trans (hj j h1 h2)]
  exact hr
theorem At.write {i : Nat} (hi : i < L) (hS : ∀ j, j < L → W j → (S j ↔ j < i)) (hS' : ∀ j, S' j ↔ (S j ∨ j = i)) (hr : R' (val (i + 1))) : At L val W S' R' :=
  ⟨i + 1, by omega, fun j h1 h2 => by rw [hS' j, hS j h1 h2]; omega, hr⟩
theorem At.keep {i : Nat} (hw : ¬ W i) (hS' : ∀ j, S' j ↔ (S j ∨ j = i)) (hr : ∀ x, R x → R' x) (h : At L val W S R) : At L val W S' R' := by
  obtain ⟨k, hk, hj, h⟩ := h
  refine ⟨k, hk, fun j h1 h2 => ?_, hr _ h⟩
  rw [hS' j, hj j h1 h2]
  exact ⟨fun h => h.resolve_right fun e => hw (e ▸ h2), .inl⟩
theorem At.last (hfr : ∀ k, k < L → ¬ W k → val (k + 1) = val k) (hall : ∀ j, j < L → S j) (h : At L val W S R) : R (val L) := by
  obtain ⟨k, hk, hj, hr⟩ := h
  rw [place_eq hfr (Nat.le_refl L) hk fun j h1 h2 => ⟨fun _ => (hj j h1 h2).1 (hall j h1), fun _ => h1⟩]
  exact hr
end place

/-- What is known of a region by its text and by its run in the text's order. -/
structure Stat (E : Env) (ops : Array Oper) (lo : Nat) (ys : List (Nat × LRec)) (S : Nat → St) (tr : Nat → Tr) (ah : Nat → Nat → Prop) : Prop where
  step : ∀ (k : Nat) (o : Oper), ops[k]? = some o → StepGoes E ops o (S k) (S (k + 1)) (tr k) lo ys
  ord : ∀ i j, i < j → j < ops.size → clash (tr i) (tr j) = true → ah j i
  slot : ∀ (i j : Nat) (oi oj : Oper) (t : Nat), i < j → ops[i]? = some oi → ops[j]? = some oj → ((oi.dst = some t ∧ t ∈ namesOp ops.toList oj) ∨ (oj.dst = some t ∧ t ∈ namesOp ops.toList oi)) → ah j i
  ahd : ∀ (j : Nat) (o : Oper) (i : Nat), ops[j]? = some o → ah j i → ∃ e ∈ o.after, Region.binds .any e = true ∧ e.on < j ∧ (i = e.on ∨ ah e.on i)
  back : ∀ (j : Nat) (o : Oper) (e : Edge), ops[j]? = some o → e ∈ o.after → Region.binds .any e = true → e.on < j

def blkAt (S : Nat → St) (n : Nat) (k : Nat) : Option Blk × Prop := ((S k).H.get n, n < (S k).H.next)

section
variable {E : Env} {ops : Array Oper} {lo : Nat} {ys : List (Nat × LRec)} {S : Nat → St} {tr : Nat → Tr} {ah : Nat → Nat → Prop}

theorem Stat.blk_frame (h : Stat E ops lo ys S tr ah) (n k : Nat) (hk : k < ops.size) (hw : ¬ (tr k).writes n) : blkAt S n (k + 1) = blkAt S n k := by
  have hL := (h.step k ops[k] (by simp [hk])).1
  simp only [Tr.writes, not_or, Bool.not_eq_true] at hw
  obtain ⟨h1, h2⟩ := hL.get n hw.1 hw.2
  exact Prod.ext h1 (propext h2)
theorem Stat.js_frame (h : Stat E ops lo ys S tr ah) (k : Nat) (hk : k < ops.size) (hw : ¬ (tr k).all = 2) : (S (k + 1)).H.js = (S k).H.js := (h.step k ops[k] (by simp [hk])).1.js hw
theorem Stat.tm_frame (h : Stat E ops lo ys S tr ah) (t k : Nat) (hk : k < ops.size) (hw : ¬ ∃ o, ops[k]? = some o ∧ o.dst = some t) : (S (k + 1)).tm.get t = (S k).tm.get t := by
  have ho : ops[k]? = some ops[k] := by simp [hk]
  obtain ⟨_, _, x, hx, _⟩ := h.step k _ ho
  rw [hx, if_neg fun e => hw ⟨_, ho, e.1⟩]
theorem Stat.tmn (h : Stat E ops lo ys S tr ah) (k : Nat) (hk : k ≤ ops.size) : (S k).tm.n = (S 0).tm.n := by
  induction k with
  | zero => rfl
  | succ k ih => rw [(h.step k (ops[k]'(by omega)) (by simp)).2.1, ih (by omega)]

/-- The state when the operations of a set were run. -/
structure Inv (E : Env) (ops : Array Oper) (lo : Nat) (ys : List (Nat × LRec)) (S : Nat → St) (tr : Nat → Tr) (ah : Nat → Nat → Prop) (C0 : Ctx) (a0 : Act) (X : Nat → Prop) (C : Ctx) (a : Act) : Prop where
  le : Le C0 C
  good : Good C
  blk : ∀ n, At ops.size (blkAt S n) (fun j => (tr j).writes n) X fun b => C.get n = b.1 ∧ (C.born n ↔ b.2)
  js : At ops.size (fun k => (S k).H.js) (fun j => (tr j).all = 2) X fun l => C.js = l
  tm : ∀ t, At ops.size (fun k => (S k).tm.get t) (fun j => ∃ o, ops[j]? = some o ∧ o.dst = some t) X fun x => VR C x (a.tmps.getD t undef)
  size : a.tmps.size = (S 0).tm.n
  low : ∀ n, n < lo → C.get n = C0.get n
  jsk : ∀ (k : Nat), k < C0.js.length → (∀ p ∈ ys, p.1 ≠ k) → C.js[k]? = C0.js[k]?
  defers : a.defers = a0.defers
  closed : ∀ j, j < ops.size → X j → ∀ i, ah j i → X i

theorem put_get (a : Act) (dst : Option Tmp) (v : Value) (t : Nat) : (a.put dst v).tmps.getD t undef = if dst = some t ∧ t < a.tmps.size then v else a.tmps.getD t undef := by
  cases dst with
  | none => simp [Act.put]
  | some d =>
    simp only [Act.put, Array.getD_eq_getD_getElem?, Array.getElem?_setIfInBounds]
    by_cases h : d = t
    · subst h
      by_cases hd : d < a.tmps.size
      · simp [hd]
      · simp [hd]
    · rw [if_neg h, if_neg (fun e => h (by simpa using e.1))]

/-- One operation that may come up. -/
theorem Inv.step (hS : Stat E ops lo ys S tr ah) {C0 : Ctx} {a0 : Act} {X X' : Nat → Prop} {C : Ctx} {a : Act} (g0 : Good C0) (hborn0 : ∀ m, m < lo → C0.born m) (hY : YRel C0 ys) (h : Inv E ops lo ys S tr ah C0 a0 X C a)
    {j : Nat} {o : Oper} (ho : ops[j]? = some o) (hX : ¬ X j) (hrdy : ∀ e ∈ o.after, Region.binds .any e = true → X e.on) (hX' : ∀ i, X' i ↔ (X i ∨ i = j)) {F : Fence} {rd : Bool} {n : Nat} (hF : FenceOK rd F)
    (K : Act → World → Prop) (Q : Exit → Act → World → Prop) (hK : ∀ C' a', Inv E ops lo ys S tr ah C0 a0 X' C' a' → K a' C'.w) :
    if Region.wanted o (yielded ops a.tmps) = true then o.wpIn F n E.P a C.w K Q else (∀ f, o.about E.P C.w a.eval = some f → F.fn f) ∧ K (a.put o.dst undef) C.w := by
  have hj : j < ops.size := (Array.getElem?_eq_some_iff.1 ho).1
  have hah : ∀ i, ah j i → X i := fun i hi => by
    obtain ⟨e, h1, h2, h3, h4⟩ := hS.ahd j o i ho hi
    rcases h4 with rfl | h4
    · exact hrdy e h1 h2
    · exact h.closed e.on (by omega) (hrdy e h1 h2) i h4
  -- an operation that clashes with this one was run just where it comes before it in the text
  have hord : ∀ i, i < ops.size → (i < j → ah j i) → (j < i → ah i j) → (X i ↔ i < j) := fun i hi h1 h2 => by
    rcases Nat.lt_trichotomy i j with hlt | rfl | hgt
    · exact ⟨fun _ => hlt, fun _ => hah i (h1 hlt)⟩
    · exact ⟨fun hx => absurd hx hX, fun h => absurd h (Nat.lt_irrefl _)⟩
    · exact ⟨fun hx => absurd (h.closed i hi hx j (h2 hgt)) hX, fun h => by omega⟩
  have oW : ∀ n, touches (tr j) n → ∀ i, i < ops.size → (tr i).writes n → (X i ↔ i < j) := fun n hn i hi hw =>
    hord i hi (fun hlt => hS.ord i j hlt hj (clash_of (.inl ⟨hw, hn⟩))) fun hlt => hS.ord j i hlt hi (clash_of (.inr ⟨hn, hw⟩))
  have oJ : (tr j).all ≠ 0 → ∀ i, i < ops.size → (tr i).all = 2 → (X i ↔ i < j) := fun hn i hi hw => oW 0 (.inr (.inr hn)) i hi (.inr hw)
  have oT : ∀ t, t ∈ namesOp ops.toList o → ∀ i, i < ops.size → (∃ oi, ops[i]? = some oi ∧ oi.dst = some t) → (X i ↔ i < j) := fun t ht i hi hw => by
    obtain ⟨oi, h1, h2⟩ := hw
    exact hord i hi (fun hlt => hS.slot i j oi o t hlt h1 ho (.inl ⟨h2, ht⟩)) fun hlt => hS.slot j i o oi t hlt ho h1 (.inr ⟨h2, ht⟩)
  obtain ⟨hL, hn, x, hx, hgo⟩ := hS.step j o ho
  have hA : Agrees C (S j).H (tr j) := by
    refine ⟨fun n hn => ?_, fun hn => ?_⟩
    · have := (h.blk n).read (hS.blk_frame n) hj (oW n hn)
      exact this
    · exact h.js.read hS.js_frame hj (oJ hn)
  have hnm : ∀ t ∈ namesOp ops.toList o, VR C ((S j).tm.get t) (a.tmps.getD t undef) := fun t ht => (h.tm t).read (hS.tm_frame t) hj (oT t ht)
  have hfr : ∃ m, ¬ C.born m := by
    have bnd : ∀ k, ∃ N, ∀ i, i ≤ k → (S i).H.next ≤ N := fun k => by
      induction k with
      | zero => exact ⟨(S 0).H.next, fun i hi => by rw [show i = 0 by omega]; exact Nat.le_refl _⟩
      | succ k ih =>
        obtain ⟨N, hN⟩ := ih
        refine ⟨N + (S (k + 1)).H.next, fun i hi => ?_⟩
        rcases Nat.lt_or_ge i (k + 1) with h | h
        · have := hN i (by omega); omega
        · rw [show i = k + 1 by omega]; omega
    obtain ⟨N, hN⟩ := bnd ops.size
    refine ⟨N, fun hb => ?_⟩
    obtain ⟨k, hk, _, hr⟩ := h.blk N
    have h1 : N < (S k).H.next := hr.2.1 hb
    have h2 := hN k hk
    omega
  refine hgo C a F rd n h.good hA (fun m hm => h.le.born m (hborn0 m hm)) hfr (hY.mono h.le) hnm hF K Q fun C' v d hv => hK C' _ ?_
  have hX0 : ∀ i, X i → X' i := fun i hi => (hX' i).2 (.inl hi)
  refine { le := h.le.trans d.le, good := d.good, blk := fun n => ?_, js := ?_, tm := fun t => ?_, size := ?_, low := fun n hn => (d.low n hn).trans (h.low n hn), jsk := fun k hk hp => ?_, defers := (put_defers _ _ _).trans h.defers, closed := fun i hi hXi k hk => ?_ }
  · by_cases hw : (tr j).writes n
    · have ht : touches (tr j) n := hw.elim (fun h => .inr (.inl h)) fun h => .inr (.inr (by omega))
      exact .write hj (oW n ht) hX' (d.get n hw)
    · have hw' := hw
      simp only [Tr.writes, not_or, Bool.not_eq_true] at hw'
      obtain ⟨e1, e2⟩ := d.same n hw'.1 hw'.2
      exact (h.blk n).keep hw hX' fun b hb => ⟨e1.trans hb.1, e2.trans hb.2⟩
  · by_cases hw : (tr j).all = 2
    · exact .write hj (oJ (by omega)) hX' (d.js2 hw)
    · exact h.js.keep hw hX' fun l hl => (d.js hw).trans hl
  · by_cases hw : ∃ o', ops[j]? = some o' ∧ o'.dst = some t
    · obtain ⟨o', e1, e2⟩ := hw
      rw [ho] at e1
      cases e1
      have ht : t ∈ namesOp ops.toList o := by simp [namesOp, e2]
      refine .write hj (oT t ht) hX' ?_
      show VR C' ((S (j + 1)).tm.get t) _
      rw [hx t, put_get, e2]
      have hsz : (S j).tm.n = a.tmps.size := by rw [hS.tmn j (by omega), h.size]
      rw [hsz]
      by_cases hlt : t < a.tmps.size
      · rw [if_pos ⟨rfl, hlt⟩, if_pos ⟨rfl, hlt⟩]; exact hv
      · rw [if_neg (fun e => hlt e.2), if_neg (fun e => hlt e.2)]; exact (hnm t ht).mono d.le
    · refine (h.tm t).keep hw hX' fun y hy => ?_
      rw [put_get, if_neg fun e => hw ⟨o, ho, e.1⟩]
      exact hy.mono d.le
  · rw [← h.size]
    cases o.dst <;> simp [Act.put]
  · exact (d.jsk k (Nat.lt_of_lt_of_le hk (g0.jslen h.good h.le)) hp).trans (h.jsk k hk hp)
  · rcases (hX' i).1 hXi with hXi | rfl
    · exact hX0 _ (h.closed i hi hXi k hk)
    · exact hX0 _ (hah k hk)

theorem countP_lt {l : List Nat} {p q : Nat → Bool} (hpq : ∀ i ∈ l, q i = true → p i = true) {j : Nat} (hj : j ∈ l) (h1 : p j = true) (h2 : q j = false) : l.countP q < l.countP p := by
  induction l with
  | nil => cases hj
  | cons x r ih =>
    have mono : r.countP q ≤ r.countP p := List.countP_mono_left fun i hi h => hpq i (by simp [hi]) h
    rcases List.mem_cons.1 hj with rfl | hj
    · rw [List.countP_cons_of_pos (p := p) h1, List.countP_cons_of_neg (p := q) (by simp [h2])]
      omega
    · have := ih (fun i hi => hpq i (by simp [hi])) hj
      by_cases hq : q x = true
      · rw [List.countP_cons_of_pos (p := q) hq, List.countP_cons_of_pos (p := p) (hpq x (by simp) hq)]
        omega
      · rw [List.countP_cons_of_neg (p := q) hq]
        by_cases hp : p x = true
        · rw [List.countP_cons_of_pos (p := p) hp]; omega
        · rw [List.countP_cons_of_neg (p := p) hp]; omega

theorem drawn_any (hS : Stat E ops lo ys S tr ah) {C0 : Ctx} {a0 : Act} (g0 : Good C0) (hborn0 : ∀ m, m < lo → C0.born m) (hY : YRel C0 ys) {F : Fence} {rd : Bool} {n : Nat} (hF : FenceOK rd F) (Q : Exit → Act → World → Prop)
    (hQ : ∀ C a, Inv E ops lo ys S tr ah C0 a0 (fun j => j < ops.size) C a → Q .normal a C.w) : ∀ (fuel : Nat) (listed : Array Bool) (C : Ctx) (a : Act), listed.size = ops.size →
      (List.range ops.size).countP (fun i => !listed.getD i true) ≤ fuel → Inv E ops lo ys S tr ah C0 a0 (fun j => listed.getD j false = true) C a → wpAnyIn F n E.P .any ops Q fuel listed a C.w := by
  have hall : ∀ (listed : Array Bool) (C : Ctx) (a : Act), listed.size = ops.size → (∀ j, j < ops.size → listed.getD j true = true) → Inv E ops lo ys S tr ah C0 a0 (fun j => listed.getD j false = true) C a → Q .normal a C.w := by
    intro listed C a hsz hl hI
    refine hQ C a ?_
    have : (fun j => listed.getD j false = true) = fun j => j < ops.size := by
      funext j
      refine propext ⟨fun h => ?_, fun h => ?_⟩
      · rw [← hsz]
        rcases Nat.lt_or_ge j listed.size with h' | h'
        · exact h'
        · simp [Array.getD, Nat.not_lt.2 h'] at h
      · have := hl j h
        simp [Array.getD, hsz, h] at this ⊢
        exact this
    rw [this] at hI
    exact hI
  have hnil : ∀ (listed : Array Bool), listed.size = ops.size → Region.ready .any ops listed = [] → ∀ j, j < ops.size → listed.getD j true = true := by
    intro listed hsz hr j
    induction j using Nat.strongRecOn with
    | _ j ih =>
      intro hj
      cases hl : listed.getD j true with
      | true => rfl
      | false =>
        exfalso
        have : j ∈ Region.ready .any ops listed := mem_ready.2 ⟨hl, ops[j], by simp [hj], fun e he hb => by
          have hlt := hS.back j ops[j] e (by simp [hj]) he hb
          have := ih e.on hlt (by omega)
          have h2 : e.on < listed.size := by omega
          simp [Array.getD, h2] at this ⊢
          exact this⟩
        rw [hr] at this
        cases this
  intro fuel
  induction fuel with
  | zero =>
    intro listed C a hsz hc hI
    have hl : ∀ j, j < ops.size → listed.getD j true = true := fun j hj => by
      have h0 : (List.range ops.size).countP (fun i => !listed.getD i true) = 0 := by omega
      have := List.countP_eq_zero.1 h0 j (by simp [hj])
      simpa using this
    refine ⟨?_, hall listed C a hsz hl hI⟩
    refine List.eq_nil_iff_forall_not_mem.2 fun j hj => ?_
    obtain ⟨h1, o, h2, _⟩ := mem_ready.1 hj
    rw [hl j (Array.getElem?_eq_some_iff.1 h2).1] at h1
    cases h1
  | succ fuel ih =>
    intro listed C a hsz hc hI
    refine ⟨fun hr => hall listed C a hsz (hnil listed hsz hr) hI, fun j hj => ?_⟩
    obtain ⟨h1, o, h2, h3⟩ := mem_ready.1 hj
    have hjlt : j < ops.size := (Array.getElem?_eq_some_iff.1 h2).1
    unfold wpOpIn
    rw [h2]
    have hgf : ∀ i, (listed.setIfInBounds j true).getD i false = true ↔ (listed.getD i false = true ∨ i = j) := fun i => by
      simp only [Array.getD_eq_getD_getElem?, Array.getElem?_setIfInBounds]
      by_cases hij : j = i
      · subst hij; simp [hsz, hjlt]
      · rw [if_neg hij]
        exact ⟨.inl, fun h => h.resolve_right fun e => hij e.symm⟩
    refine hI.step hS g0 hborn0 hY h2 (X' := fun i => (listed.setIfInBounds j true).getD i false = true) ?_ (fun e he hb => h3 e he hb) hgf hF _ Q fun C' a' hI' => ih _ C' a' (by simpa using hsz) ?_ hI'
    · intro h
      simp [Array.getD, hsz, hjlt] at h h1
      rw [h] at h1
      cases h1
    · have : (List.range ops.size).countP (fun i => !(listed.setIfInBounds j true).getD i true) < (List.range ops.size).countP (fun i => !listed.getD i true) := by
        refine countP_lt (fun i hi h => ?_) (j := j) (by simp [hjlt]) (by simp [h1]) ?_
        · have hi' : i < ops.size := by simpa using hi
          simp only [Array.getD_eq_getD_getElem?, Array.getElem?_setIfInBounds] at h ⊢
          by_cases hij : j = i
          · subst hij; simp [hsz, hjlt] at h
          · rw [if_neg hij] at h; exact h
        · simp [Array.getD, hsz, hjlt]
      omega
end

end Go.Am
