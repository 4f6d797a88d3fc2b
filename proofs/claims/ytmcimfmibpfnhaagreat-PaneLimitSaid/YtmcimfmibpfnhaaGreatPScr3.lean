/- Parts of the proof: PScr1 PScr2 PScr3. -/
import Derived.Test.YtmcimfmibpfnhaaGreatPScr0
import Derived.Test.YtmcimfmibpfnhaaGreatPRowZ
import Derived.Test.YtmcimfmibpfnhaaGreatAmD
set_option linter.all false
set_option linter.deprecated false

namespace Go.Am
variable {oc : Orc} [OrcI oc] [OrcF oc]
open Go.Proofs
set_option maxRecDepth 8000
set_option maxHeartbeats 4000000

/-- A screen: its block n, its rows' block m, turned e times. -/
structure SP (T lo : Nat) (H : AHeap) (n m e : Nat) (s : Sc) : Prop where
  nl : lo ≤ n
  ml : lo ≤ m
  nn : n < H.next
  mn : m < H.next
  ne : n ≠ m
  blk : H.get n = some ⟨T, 6, 0, [[.v (.int .i64 s.w), .v (.int .i64 s.h), .os m e 0 s.rows.length, .v (.int .i64 s.row), .v (.int .i64 s.col), .v (.int .i64 s.attr)]], none⟩
  rows : H.get m = some ⟨48, 2, e, rowsA s.rows, none⟩

/-- All but a screen is as it was. -/
structure Fr (H H' : AHeap) (n m m' : Nat) : Prop where
  next : H.next ≤ H'.next
  js : H'.js = H.js
  keep : ∀ k, k < H.next → k ≠ n → k ≠ m → H'.get k = H.get k
  nw : m' = m ∨ H.next ≤ m'
theorem Fr.refl (H : AHeap) (n m : Nat) : Fr H H n m m := ⟨Nat.le_refl _, rfl, fun _ _ _ _ => rfl, .inl rfl⟩
theorem Fr.trans {H H1 H2 : AHeap} {n m m1 m2 : Nat} (h : Fr H H1 n m m1) (k : Fr H1 H2 n m1 m2) : Fr H H2 n m m2 :=
  ⟨Nat.le_trans h.next k.next, k.js.trans h.js, fun i hi h1 h2 => by
    rw [k.keep i (Nat.lt_of_lt_of_le hi h.next) h1 (by rcases h.nw with e | e <;> omega), h.keep i hi h1 h2], by
    have := h.next; rcases h.nw with e | e <;> rcases k.nw with e' | e' <;> omega⟩
theorem Fr.push {H H1 : AHeap} {n m m1 : Nat} (h : Fr H H1 n m m1) (b : Blk) : Fr H (H1.push b) n m m1 :=
  ⟨by rw [next_push]; have := h.next; omega, h.js, fun i hi h1 h2 => by rw [get_push, if_neg (by have := h.next; omega)]; exact h.keep i hi h1 h2, h.nw⟩
theorem Fr.setn {H H1 : AHeap} {n m m1 : Nat} (h : Fr H H1 n m m1) (b : Blk) : Fr H (H1.set n b) n m m1 :=
  ⟨h.next, h.js, fun i hi h1 h2 => by rw [get_set, if_neg (by omega)]; exact h.keep i hi h1 h2, h.nw⟩
theorem Fr.setm {H H1 : AHeap} {n m m1 : Nat} (h : Fr H H1 n m m1) (b : Blk) : Fr H (H1.set m1 b) n m m1 :=
  ⟨h.next, h.js, fun i hi h1 h2 => by rw [get_set, if_neg (by rcases h.nw with e | e <;> omega)]; exact h.keep i hi h1 h2, h.nw⟩
theorem Fr.ext {H H1 : AHeap} {n m m1 sz : Nat} {x : AV} {es : List (List AV)} (h : Fr H H1 n m m1) (hx : SlH H sz x es) (hk : ∀ k, nameOf x k → k ≠ n ∧ k ≠ m) : SlH H1 sz x es := by
  rcases hx with hx | ⟨k, e, off, b, rfl, hl, hb, he, hi, hs, ho, ht⟩
  · exact .inl hx
  · obtain ⟨h1, h2⟩ := hk k ⟨e, off, _, rfl⟩
    exact .inr ⟨k, e, off, b, rfl, Nat.lt_of_lt_of_le hl h.next, by rw [h.keep k hl h1 h2]; exact hb, he, hi, hs, ho, ht⟩

/-- A screen beside: it stays. -/
theorem SP.fr {T T' lo : Nat} {H H1 : AHeap} {n m e n' m' e' m1 : Nat} {s : Sc} (h : SP T lo H n m e s) (f : Fr H H1 n' m' m1) (h1 : n ≠ n') (h2 : n ≠ m') (h3 : m ≠ n') (h4 : m ≠ m') : SP T lo H1 n m e s :=
  ⟨h.nl, h.ml, Nat.lt_of_lt_of_le h.nn f.next, Nat.lt_of_lt_of_le h.mn f.next, h.ne, by rw [f.keep n h.nn h1 h2]; exact h.blk, by rw [f.keep m h.mn h3 h4]; exact h.rows⟩
theorem SP.ext {T lo : Nat} {H H1 : AHeap} {n m e : Nat} {s : Sc} (h : SP T lo H n m e s) (f : Ext H H1) : SP T lo H1 n m e s :=
  ⟨h.nl, h.ml, Nat.lt_of_lt_of_le h.nn f.next, Nat.lt_of_lt_of_le h.mn f.next, h.ne, by rw [f.get n h.nn]; exact h.blk, by rw [f.get m h.mn]; exact h.rows⟩

/-- Its own block turned. -/
theorem SP.turn {T lo : Nat} {H : AHeap} {n m e : Nat} {s : Sc} (h : SP T lo H n m e s) (s' : Sc) (hr : s'.rows = s.rows) : SP T lo (H.set n ⟨T, 6, 0, [[.v (.int .i64 s'.w), .v (.int .i64 s'.h), .os m e 0 s.rows.length, .v (.int .i64 s'.row), .v (.int .i64 s'.col), .v (.int .i64 s'.attr)]], none⟩) n m e s' :=
  ⟨h.nl, h.ml, h.nn, h.mn, h.ne, by rw [get_set, if_pos rfl, hr], by rw [get_set, if_neg h.ne, hr]; exact h.rows⟩
theorem SP.turnL {T lo : Nat} {H : AHeap} {n m e : Nat} {s : Sc} (h : SP T lo H n m e s) (s' : Sc) (hr : s'.rows = s.rows) (len : Nat) (hl : s.rows.length = len) : SP T lo (H.set n ⟨T, 6, 0, [[.v (.int .i64 s'.w), .v (.int .i64 s'.h), .os m e 0 len, .v (.int .i64 s'.row), .v (.int .i64 s'.col), .v (.int .i64 s'.attr)]], none⟩) n m e s' := hl ▸ h.turn s' hr

/-- Its rows turned. -/
theorem SP.setm {T lo : Nat} {H : AHeap} {n m e : Nat} {s : Sc} (h : SP T lo H n m e s) (r : List Rw) (hl : r.length = s.rows.length) : SP T lo (H.set m ⟨48, 2, e, rowsA r, none⟩) n m e { s with rows := r } :=
  ⟨h.nl, h.ml, h.nn, h.mn, h.ne, by rw [get_set, if_neg (fun e => h.ne e.symm)]; have hb := h.blk; rw [← hl] at hb; exact hb, by rw [get_set, if_pos rfl]⟩

/-- Rows that are handed over. -/
structure OutS (H H' : AHeap) (m' : Nat) (x : AV) (l : List Rw) : Prop where
  sl : SlH H' 2 x (rowsA l)
  nw : ∀ k, nameOf x k → H.next ≤ k ∧ k ≠ m'
theorem OutS.nil (H H' : AHeap) (m' : Nat) : OutS H H' m' (.v (.slice none 0 0)) [] := ⟨.inl (.inr ⟨rfl, .inr rfl⟩), fun k ⟨_, _, _, h⟩ => by cases h⟩
theorem OutS.one {H H' : AHeap} {m' : Nat} {r : Rw} (k : Nat) (hk : H.next ≤ k) (hl : k < H'.next) (hne : k ≠ m') (hg : H'.get k = some ⟨48, 2, 0, [[.sl 3 (cesA r.1), .v (.bool r.2)]], none⟩) : OutS H H' m' (.os k 0 0 1) [r] :=
  ⟨.inr ⟨k, 0, 0, _, rfl, hl, hg, rfl, rfl, rfl, by simp [rowsA], by simp [rowsA]⟩, fun j ⟨_, _, _, h⟩ => by cases h; exact ⟨hk, hne⟩⟩
theorem OutS.from {H0 H H' : AHeap} {m' : Nat} {x : AV} {l : List Rw} (h : OutS H0 H' m' x l) (hn : H.next ≤ H0.next) : OutS H H' m' x l := ⟨h.sl, fun k hk => by have := h.nw k hk; exact ⟨by omega, this.2⟩⟩
theorem OutS.ext {H H' G : AHeap} {m' : Nat} {x : AV} {l : List Rw} (h : OutS H H' m' x l) (hx : Ext H' G) : OutS H G m' x l := ⟨h.sl.ext hx, h.nw⟩
theorem Fr.re {H H1 : AHeap} {n m m1 m' : Nat} (h : Fr H H1 n m m1) (hm : H.next ≤ m') : Fr H H1 n m m' := ⟨h.next, h.js, h.keep, .inr hm⟩
theorem CallRoE.anyH {E : Env} {ys ys' : List (Nat × LRec)} {lo lo' : Nat} {f : FuncId} {args : List AV} {H0 H : AHeap} {P : AV → Prop} (hpol : E.pol f = .pure) (hn : args.all nf = true) (h : CallRoE E ys lo f args H0 P) : CallRoE E ys' lo' f args H P := by
  obtain ⟨x, tr, h0, ⟨n, h1⟩, h2⟩ := h
  simp only [runPlan, hpol, hn, if_true] at h1
  have e1 : ∀ ys lo, (callF E (exec E n) ys lo).call false 0 f args .empty = callG E (exec E n) [] 0 f args .empty := fun ys lo => rfl
  rw [e1] at h1
  cases hc : callG E (exec E n) [] 0 f args .empty with
  | none => rw [hc] at h1; cases h1
  | some p =>
    obtain ⟨r, H'⟩ := p
    rw [hc] at h1
    simp only [hand_pure, fNat_eq, Option.some.injEq, Prod.mk.injEq] at h1
    refine ⟨x, ⟨0, 0, 0⟩, RoT.zero, ⟨n, ?_⟩, h2⟩
    have hz : newBits H.next (H.next - H.next) = 0 := by simp [newBits]
    simp only [runPlan, hpol, hn, if_true, e1, hc, hand_pure, fNat_eq, hz]
    rw [← h1.1, renV_base _ _ _ H0.next]
theorem CallRoE.ro {E : Env} {ys : List (Nat × LRec)} {lo : Nat} {f : FuncId} {args : List AV} {H : AHeap} {P : AV → Prop} {y : AV} (h : CallRoE E ys lo f args H P) (hP : ∀ x, P x → x = y) : CallRo E ys lo f args H y := by
  obtain ⟨x, tr, h0, h1, h2⟩ := h
  rw [hP x h2] at h1
  exact ⟨tr, h0, h1⟩
theorem len_ne {l m : List Ce} (h : m ≠ []) (e : l.length = m.length) : l ≠ [] := by
  rintro rfl
  exact h (List.eq_nil_of_length_eq_zero e.symm)
section
variable {ys : List (Nat × LRec)} {lo : Nat} {H : AHeap} {A B : AV} {l m : List Ce} {wr : Bool}
theorem Set_D (hB : SlH H 3 B (cesA m)) (h0 : l ≠ []) (hl : l.length < 2 ^ 40) (hm : m.length < 2 ^ 40) (col : Int) (hc : -9223372036854775808 ≤ col ∧ col ≤ 9223372036854775807) : CallRo (ELo oc) ys lo 144 [.agg [.sl 3 (cesA l), .v (.bool wr)], .v (.int .i64 col), B] H (.tup [.agg [.sl 3 (cesA (setL l col m)), .v (.bool wr)], .v (.bool (decide (setOk l col m)))]) :=
  (Set_run (.inl (.inl rfl)) hB hl hm col hc).ro fun x hx => by
    obtain ⟨A', rfl, hA'⟩ := hx.norm (.inl rfl)
    rw [Sl_ne hA' (ces_ne (len_ne h0 (setL_len l m col)))]
theorem Sl_empty {sz : Nat} {x : AV} {es : List (List AV)} (h : SlH .empty sz x es) : Sl sz x es := by
  rcases h with h | ⟨n, e, off, b, rfl, hn, _⟩
  · exact h
  · exact absurd hn (Nat.not_lt_zero _)
theorem Erase_D (h0 : l ≠ []) (hl : l.length < 2 ^ 40) (a b : Int) (ha : -9223372036854775808 ≤ a ∧ a ≤ 9223372036854775807) (hb : -9223372036854775808 ≤ b ∧ b ≤ 9223372036854775807) : CallRo (ELo oc) ys lo 145 [.agg [.sl 3 (cesA l), .v (.bool wr)], .v (.int .i64 a), .v (.int .i64 b)] H (.tup [.agg [.sl 3 (cesA (erL l a b)), .v (.bool (erW l wr a b))], .v (.bool (decide (eraOk l a b)))]) :=
  (CallRoE.anyH (ys := []) (lo := 0) (H0 := .empty) rfl rfl (Erase_run (.inl (.inl rfl)) hl a b ha hb)).ro fun x hx => by
    obtain ⟨A', rfl, hA'⟩ := hx.norm (.inl rfl)
    rw [Sl_ne (Sl_empty hA') (ces_ne (len_ne h0 (erL_len l a b)))]
theorem Blank_D (w : Int) (h0 : 1 ≤ w) (h : w ≤ 300) : CallRo (ELo oc) ys lo 75 [.v (.int .i64 w)] H (.agg [.sl 3 (cesA (blanks w.toNat)), .v (.bool false)]) := by
  have := rowBlank_run (ys := ys) (lo := lo) (H := H) w (by omega)
  rw [show (min (max w 0) 300).toNat = w.toNat by omega] at this
  exact this
theorem within_run (n a b : Int) : CallR (ELo oc) ys lo 131 [.v (.int .i64 n), .v (.int .i64 a), .v (.int .i64 b)] H (.v (.int .i64 (min (max n a) b))) H ⟨0, 0, 0⟩ := by
  refine WC.pure' rfl rfl ?_ _ _ _
  refine zvin Tryz.func131 Tryz.ntmps131 ?_
  repeat' (first | refine zka ?_ | refine zkb ?_ | (apply RKp.op; ((try simp (disch := (first | omega | exact zX | fail)) only [go_sem]); exact zL); rfl) | refine zkc ?_ | refine zz ?_ | refine zkd ?_ | refine zke ?_ | refine zkf ?_ | (refine RKg.split (fun h => ?_) (fun h => ?_) <;> (try rw [h]) <;> (replace h := zB h) <;> (try (exfalso; first | exact h | omega))) | refine zbt ?_ | apply V.regK | refine zvd ?_ | refine zve ?_ | (refine zvf (fun h => ?_) (fun h => ?_) <;> (replace h := zB h) <;> (try (exfalso; first | exact h | omega))) | (refine zfc Tryz.results131 ?_; (try dsimp only)))
  rfl
end
/-! Facts about a slice of numbers, on every heap that goes on from where it was. -/
section
variable (lo : Nat) {H0 : AHeap} {A : AV} {a : List Int} (hA : SlH H0 1 A (ints a)) (H : AHeap) (hx : Ext H0 H)
include hA hx
theorem len_intX : primL lo H (builtinA (ELo oc) .len #[59] 3 [A]) = some (.v (.int .i64 a.length), H, rdTr A) := by
  have := len_SlH (ELo oc) lo 59 3 (hA.ext hx) (by kernel_rfl)
  rw [ints_len] at this; exact this
theorem ix_intX (κ : IntKind) (z : Int) (h0 : 0 ≤ z) (h1 : z < a.length) : primL lo H (indexAddrA (ELo oc) 59 A (.v (.int κ z))) = some (ixA A (ints a) z.toNat, H, rdTr A) :=
  ix_SlH (ELo oc) lo 59 κ z (hA.ext hx) (by kernel_rfl) h0 (by rw [ints_len]; exact h1)
theorem ld_intX (j : Nat) (h : j < a.length) : primL lo H (loadA (ELo oc) 3 (ixA A (ints a) j)) = some (.v (.int .i64 (a.getD j 0)), H, rdTr A) := by
  rw [load_SlH (ELo oc) lo 3 j (hA.ext hx) (by rw [ints_len]; exact h), nth_ints a j h]; rfl
end
section
variable {ys : List (Nat × LRec)} {lo : Nat} {H : AHeap} {A : AV} {a : List Int}
theorem number_R (hA : SlH H 1 A (ints a)) (hl : a.length < 2 ^ 40) (k r : Int) (t : ByteArray) (i d : Int) (h0 : 0 ≤ i) (hi : i ≤ 1) : CallRo (ELo oc) ys lo 159 [.agg [.v (.int .i64 k), .v (.int .i32 r), A, .v (.string t)], .v (.int .i64 i), .v (.int .i64 d)] H (.v (.int .i64 (argI a i.toNat d))) := by
  refine WC.pureR rfl fun lo' H' hh => ?_
  have hA' := (hA.two (.inr ⟨[.v (.int .i64 k), .v (.int .i32 r), A, .v (.string t)], .inl (by simp)⟩) hh)
  have hi' : a.length ≤ i.toNat → a.getD i.toNat 0 = 0 := fun h => by simp [List.getD_eq_getElem?_getD, List.getElem?_eq_none h]
  refine zvin Tryz.func159 Tryz.ntmps159 ?_
  repeat' (first | refine zka ?_ | refine zkb ?_ | (apply RKp.op; ((try simp (disch := (first | omega | exact zX | fail)) only [len_intX lo' hA', ix_intX lo' hA', ld_intX lo' hA', go_sem]); exact zL); rfl) | refine zkc ?_ | refine zz ?_ | refine zkd ?_ | refine zke ?_ | refine zkf ?_ | (refine RKg.split (fun h => ?_) (fun h => ?_) <;> (try rw [h]) <;> (replace h := zB h) <;> (try (exfalso; first | exact h | omega))) | refine zbt ?_ | apply V.regK | refine zvd ?_ | refine zve ?_ | (refine zvf (fun h => ?_) (fun h => ?_) <;> (replace h := zB h) <;> (try (exfalso; first | exact h | omega))) | (refine zfc Tryz.results159 ?_; (try dsimp only)))
  all_goals (rw [frzR_v]; unfold argI; congr 2; grind)
end
end Go.Am

namespace Go.Am
variable {oc : Orc} [OrcI oc] [OrcF oc]
open Go.Proofs
set_option maxRecDepth 8000
set_option maxHeartbeats 4000000
theorem app_row : appInfo (ELo oc).P 22 = some (48, 32, 2) := by kernel_rfl
theorem flat_rowsA (l : List Rw) : FlatE (rowsA l) := FlatE.map (fun c x hx => by simp at hx; rcases hx with rfl | rfl <;> rfl) l
theorem rowsA_nil {l : List Rw} : rowsA l = [] ↔ l = [] := by cases l <;> simp [rowsA]

/-- The rows of a screen, as a slice. -/
theorem SP.slh {T lo : Nat} {H G : AHeap} {n m e : Nat} {s : Sc} (h : SP T lo H n m e s) (x : Ext H G) : SlH G 2 (.os m e 0 s.rows.length) (rowsA s.rows) :=
  .inr ⟨m, e, 0, _, by rw [rowsA_len], Nat.lt_of_lt_of_le h.mn x.next, by rw [x.get m h.mn]; exact h.rows, rfl, rfl, rfl, by simp, by simp⟩
theorem SP.tail {T lo : Nat} {H G : AHeap} {n m e : Nat} {s : Sc} (h : SP T lo H n m e s) (x : Ext H G) (h1 : 1 ≤ s.rows.length) : SlH G 2 (.os m e 1 (s.rows.length - 1)) (rowsA s.rows.tail) := by
  have := cutA_SlH (lo := 1) (hi := s.rows.length) (h.slh x) h1 (by rw [rowsA_len]; exact Nat.le_refl _)
  rw [show ((rowsA s.rows).drop 1).take (s.rows.length - 1) = rowsA s.rows.tail by
    rw [List.take_of_length_le (by rw [List.length_drop, rowsA_len]; exact Nat.le_refl _)]; unfold rowsA; cases s.rows <;> simp] at this
  exact this
theorem SP.sl1 {T lo : Nat} {H G : AHeap} {n m e : Nat} {s : Sc} (lo' : Nat) (h : SP T lo H n m e s) (x : Ext H G) (h1 : 1 ≤ s.rows.length) : primL lo' G (sliceA (ELo oc) 22 (.os m e 0 s.rows.length) (some (.v (.int .i64 1))) none none) = some (.os m e 1 (s.rows.length - 1), G, ⟨bitsOf [m], 0, 0⟩) := by
  have := slice_SlH (ELo oc) lo' (t := 22) (by kernel_rfl) (h.slh x) (some (.v (.int .i64 1))) none (bound_some .i64 1 0 (by omega)) (bound_none _) (by rw [rowsA_len]; exact h1) (Nat.le_refl _)
  rw [rowsA_len] at this
  exact this
section
variable {ys : List (Nat × LRec)} {lo : Nat} {H : AHeap} {A B : AV} {l : List Rw}
theorem CloneR_N (hA : SlH H 2 A (rowsA l)) (h0 : l ≠ []) (hl : l.length < 2 ^ 40) : CallN (ELo oc) ys lo 93 [A] H (.os H.next 0 0 l.length) (H.push ⟨48, 2, 0, rowsA l, none⟩) := by
  refine WC.ownN (x := fun m => .os m 0 0 l.length) (bs := fun _ => [⟨48, 2, 0, rowsA l, none⟩]) rfl fun lo' H' hh => ?_
  have hA' := hA.two (.inr ⟨[], .inr List.mem_cons_self⟩) hh
  have hlo := lo_two hh
  have h1 : rowsA l ≠ [] := fun e => h0 (rowsA_nil.1 e)
  have happ := append_new (ELo oc) lo' (H := H') (t := 22) (s := .e0) (.inl rfl) app_row hA' h1 (by rw [rowsA_len]; unfold roomMax; omega)
  have hne := fun xo yo => nilS_no (ELo oc) lo' hA' (nilS_ne' hA' h1) 22 xo yo (by kernel_rfl)
  rw [rowsA_len] at happ
  refine zvin Tryz.func93 Tryz.ntmps93 ?_
  repeat' (first | refine zka ?_ | refine zkb ?_ | (apply RKp.op; ((try simp (disch := (first | exact zQ | fail)) only [hne, happ, go_sem]); exact zL); rfl) | refine zkc ?_ | refine zz ?_ | refine zkd ?_ | refine zke ?_ | refine zkf ?_ | (refine RKg.split (fun h => ?_) (fun h => ?_) <;> (try rw [h]) <;> (replace h := zB h) <;> (try (exfalso; first | exact h | omega))) | refine zbt ?_ | apply V.regK | refine zvd ?_ | refine zve ?_ | (refine zvf (fun h => ?_) (fun h => ?_) <;> (replace h := zB h) <;> (try (exfalso; first | exact h | omega))) | (refine zfc Tryz.results93 ?_; (try dsimp only)))
  exact hands_os (b := ⟨48, 2, 0, rowsA l, none⟩) (by omega) (by rw [get_push, if_pos rfl]) rfl (flat_rowsA l)
theorem CloneR_E (hA : SlH H 2 A (rowsA [])) (hn : A ≠ .v (.slice none 0 0)) : CallN (ELo oc) ys lo 93 [A] H .e0 H := by
  refine WC.ownN (x := fun m => .e0) (bs := fun _ => []) rfl fun lo' H' hh => ?_
  have hA' := hA.two (.inr ⟨[], .inr List.mem_cons_self⟩) hh
  have h1 := append_new0 (ELo oc) lo' (H := H') (t := 22) (s := .e0) (.inl rfl) app_row hA'
  have h2 := fun xo yo => nilS_no (ELo oc) lo' hA' hn 22 xo yo (by kernel_rfl)
  refine zvin Tryz.func93 Tryz.ntmps93 ?_
  repeat' (first | refine zka ?_ | refine zkb ?_ | (apply RKp.op; ((try simp (disch := (first | exact zQ | fail)) only [h1, h2, go_sem]); exact zL); rfl) | refine zkc ?_ | refine zz ?_ | refine zkd ?_ | refine zke ?_ | refine zkf ?_ | (refine RKg.split (fun h => ?_) (fun h => ?_) <;> (try rw [h]) <;> (replace h := zB h) <;> (try (exfalso; first | exact h | omega))) | refine zbt ?_ | apply V.regK | refine zvd ?_ | refine zve ?_ | (refine zvf (fun h => ?_) (fun h => ?_) <;> (replace h := zB h) <;> (try (exfalso; first | exact h | omega))) | (refine zfc Tryz.results93 ?_; (try dsimp only)))
  exact hands_flat rfl

/-- A row behind those of a new block. -/
theorem app_rows1 (lo : Nat) (G : AHeap) (l : List Rw) (c : List Ce) (b : Bool) (k : Nat) (hk : G.next = k) (hlo : lo ≤ k) (hl : l.length < 2 ^ 30) : primL lo ((G.push ⟨48, 2, 0, rowsA l, none⟩).push ⟨48, 2, 0, [[.sl 3 (cesA c), .v (.bool b)]], none⟩) (appendA (ELo oc) 22 (.os k 0 0 l.length) (.os (k + 1) 0 0 1)) = some (.os k 1 0 (l.length + 1), ((G.push ⟨48, 2, 0, rowsA l, none⟩).push ⟨48, 2, 0, [[.sl 3 (cesA c), .v (.bool b)]], none⟩).set k ⟨48, 2, 1, rowsA (l ++ [(c, b)]), none⟩, ⟨bitsOf [k, k + 1], 2 ^ k, 0⟩) := by
  subst hk
  have h := app_one_os (ELo oc) lo (H := G.push ⟨48, 2, 0, rowsA l, none⟩) (n := G.next) (len := l.length) app_row (by rw [get_push, if_pos rfl]) (by rw [next_push]; omega) (rowsA_len l).symm hlo (by unfold roomMax; omega) [.sl 3 (cesA c), .v (.bool b)]
  rw [rowsA_app]
  exact h
theorem app_rows0 (lo : Nat) (H : AHeap) (c : List Ce) (b : Bool) (k : Nat) (hk : H.next = k) : primL lo (H.push ⟨48, 2, 0, [[.sl 3 (cesA c), .v (.bool b)]], none⟩) (appendA (ELo oc) 22 .e0 (.os k 0 0 1)) = some (.os (k + 1) 0 0 1, (H.push ⟨48, 2, 0, [[.sl 3 (cesA c), .v (.bool b)]], none⟩).push ⟨48, 2, 0, [[.sl 3 (cesA c), .v (.bool b)]], none⟩, ⟨bitsOf [k], 2 ^ (k + 1), 0⟩) := by
  subst hk
  exact app_one_new (ELo oc) lo H app_row (by unfold roomMax; omega) [.sl 3 (cesA c), .v (.bool b)] (.inl rfl)
end
section
variable {ys : List (Nat × LRec)} {lo : Nat} {H : AHeap} {n m e : Nat} {s : Sc}
theorem ScG.curl (hg : ScG s) : s.cur.1.length < 2 ^ 40 ∧ s.cur.1 ≠ [] := by
  have h := hg.at_.2.2; have := hg.w2; have := hg.w3
  exact ⟨by omega, fun e => by rw [e] at h; simp at h; omega⟩
theorem set_run (hS : SP 127 lo H n m e s) (hg : ScG s) {B : AV} {c : List Ce} (hB : SlH H 3 B (cesA c)) (hc : c.length < 2 ^ 40) : CallO (ELo oc) ys lo 156 [.op n 0 0 0, B] H (.tup []) (H.set m ⟨48, 2, e, rowsA (s.rows.set s.row.toNat (rowSet s.cur s.col c)), none⟩) := by
  have ⟨nl, ml, nn, mn, ne, hb, hm⟩ := hS
  obtain ⟨c1, c2⟩ := hg.curl
  have r0 := hg.r0; have rh := hg.rh; have hlen := hg.len; have cc0 := hg.c0; have ccw := hg.cw; have w3 := hg.w3
  have hset := fun ys => Set_D (ys := ys) (lo := lo) (H := H) (wr := s.cur.2) hB c2 c1 hc s.col (by omega)
  unfold Sc.cur at hset
  refine WC.effO rfl ?_
  refine zvin Tryz.func156 Tryz.ntmps156 ?_
  repeat' (first | refine zka ?_ | refine zkb ?_ | (apply RKp.op; ((try simp (disch := (first | exact zQ | fail)) only [hb, hm, nth_rowsA, rowsA_len, rowsA_set, go_sem]); exact zL); rfl) | (apply RKp.callR; (apply hset <;> (exact zD)); rfl; intro tr htr) | refine zkc ?_ | refine zz ?_ | refine zkd ?_ | refine zke ?_ | refine zkf ?_ | (refine RKg.split (fun h => ?_) (fun h => ?_) <;> (try rw [h]) <;> (replace h := zB h) <;> (try (exfalso; first | exact h | omega))) | refine zbt ?_ | apply V.regK | refine zva ?_ | refine zvb ?_ | refine zgc ?_ | refine zvd ?_ | refine zve ?_ | (refine zvf (fun h => ?_) (fun h => ?_) <;> (replace h := zB h) <;> (try (exfalso; first | exact h | omega))) | (refine zfa Tryz.results156 ?_; (try dsimp only)) | (refine zfb Tryz.results156 ?_; (try dsimp only)))
  exact ⟨rfl, rfl⟩
end
end Go.Am

namespace Go.Am
variable {oc : Orc} [OrcI oc] [OrcF oc]
open Go.Proofs
set_option maxRecDepth 8000
set_option maxHeartbeats 4000000
section
variable {ys : List (Nat × LRec)} {lo : Nat} {H : AHeap} {n m e : Nat} {s : Sc}
theorem RwG.curl {w : Int} {r : Rw} (h : RwG w r) (w2 : 2 ≤ w) (w3 : w ≤ 300) : r.1.length < 2 ^ 40 ∧ r.1 ≠ [] := by
  have := h.2.2
  exact ⟨by omega, fun e => by rw [e] at this; simp at this; omega⟩
theorem erase_run (hS : SP 127 lo H n m e s) (hg : ScG s) (i : Nat) (hi : i < s.rows.length) (a b : Int) (ha : -9223372036854775808 ≤ a ∧ a ≤ 9223372036854775807) (hbb : -9223372036854775808 ≤ b ∧ b ≤ 9223372036854775807) : CallO (ELo oc) ys lo 178 [.op n 0 0 0, .v (.int .i64 i), .v (.int .i64 a), .v (.int .i64 b)] H (.tup []) (H.set m ⟨48, 2, e, rowsA (s.rows.set i (rowEra (s.rows.getD i noRw) a b)), none⟩) := by
  have ⟨nl, ml, nn, mn, ne, hb, hm⟩ := hS
  obtain ⟨c1, c2⟩ := (hg.rw _ (getMem noRw hi)).curl hg.w2 hg.w3
  have hera := fun ys => Erase_D (ys := ys) (lo := lo) (H := H) (wr := (s.rows.getD i noRw).2) c2 c1 a b ha hbb
  have hin : ((i : Int)).toNat = i := Int.toNat_natCast i
  have hlen := hg.len; have h2 := hg.h2
  refine WC.effO rfl ?_
  refine zvin Tryz.func178 Tryz.ntmps178 ?_
  repeat' (first | refine zka ?_ | refine zkb ?_ | (apply RKp.op; ((try simp (disch := (first | exact zQ | fail)) only [hb, hm, nth_rowsA, rowsA_len, rowsA_set, hin, go_sem]); exact zL); rfl) | (apply RKp.callR; (apply hera <;> (exact zD)); rfl; intro tr htr) | refine zkc ?_ | refine zz ?_ | refine zkd ?_ | refine zke ?_ | refine zkf ?_ | (refine RKg.split (fun h => ?_) (fun h => ?_) <;> (try rw [h]) <;> (replace h := zB h) <;> (try (exfalso; first | exact h | omega))) | refine zbt ?_ | apply V.regK | refine zva ?_ | refine zvb ?_ | refine zgc ?_ | refine zvd ?_ | refine zve ?_ | (refine zvf (fun h => ?_) (fun h => ?_) <;> (replace h := zB h) <;> (try (exfalso; first | exact h | omega))) | (refine zfa Tryz.results178 ?_; (try dsimp only)) | (refine zfb Tryz.results178 ?_; (try dsimp only)))
  exact ⟨rfl, rfl⟩
theorem down_run (hS : SP 127 lo H n m e s) (hg : ScG s) : CallE (ELo oc) ys lo 157 [.op n 0 0 0] H fun x H' => ∃ m' e', SP 127 lo H' n m' e' s.dn.1 ∧ Fr H H' n m m' ∧ OutS H H' m' x s.dn.2 := by
  have ⟨nl, ml, nn, mn, ne, hb, hm⟩ := hS
  have r0 := hg.r0; have rh := hg.rh; have hlen := hg.len; have h1 := hg.h1; have h2 := hg.h2; have w2 := hg.w2; have w3 := hg.w3
  refine WC.effE rfl ?_
  by_cases hr : s.row + 1 < s.h
  · have e1 : s.dn = ({ s with row := s.row + 1 }, []) := by unfold Sc.dn; rw [if_pos hr]
    refine zvin Tryz.func157 Tryz.ntmps157 ?_
    repeat' (first | refine zka ?_ | refine zkb ?_ | (apply RKp.op; ((try simp (disch := (first | exact zQ | fail)) only [hb, hm, nth_rowsA, rowsA_len, rowsA_set, go_sem]); exact zL); rfl) | refine zkc ?_ | refine zz ?_ | refine zkd ?_ | refine zke ?_ | refine zkf ?_ | (refine RKg.split (fun h => ?_) (fun h => ?_) <;> (try rw [h]) <;> (replace h := zB h) <;> (try (exfalso; first | exact h | omega))) | refine zbt ?_ | apply V.regK | refine zva ?_ | refine zvb ?_ | refine zgc ?_ | refine zvd ?_ | refine zve ?_ | (refine zvf (fun h => ?_) (fun h => ?_) <;> (replace h := zB h) <;> (try (exfalso; first | exact h | omega))) | (refine zfc Tryz.results157 ?_; (try dsimp only)))
    rw [e1]
    exact ⟨m, e, hS.turn { s with row := s.row + 1 } rfl, (Fr.refl H n m).setn _, OutS.nil _ _ _⟩
  · have e1 : s.dn = ({ s with rows := s.rows.tail ++ [(blanks s.w.toNat, false)] }, [s.rows.getD 0 noRw]) := by unfold Sc.dn; rw [if_neg hr]
    have htl : s.rows.tail.length = s.rows.length - 1 := List.length_tail
    have hsl := fun G (x : Ext H G) => hS.sl1 lo x (by omega)
    have hBl := fun ys G => Blank_D (ys := ys) (lo := lo) (H := G) s.w (by omega) w3
    by_cases h0 : s.h = 1
    · have e2 : s.rows.tail = [] := List.eq_nil_of_length_eq_zero (by omega)
      have hCl := fun ys G (x : Ext H G) => CloneR_E (ys := ys) (lo := lo) (H := G) (A := .os m e 1 (s.rows.length - 1)) (by have := hS.tail x (by omega); rw [e2] at this; exact this) (by intro h; cases h)
      refine zvin Tryz.func157 Tryz.ntmps157 ?_
      repeat' (first | refine zka ?_ | refine zkb ?_ | (apply RKp.op; ((try simp (disch := (first | exact zQ | fail)) only [hb, hm, nth_rowsA, rowsA_len, rowsA_set, hsl, app_rows0 lo, Int.toNat_zero, go_sem]); exact zL); rfl) | (apply RKp.callR; (apply hBl <;> (exact zD)); rfl; intro tr htr) | (apply RKp.callN; (apply hCl <;> (exact zD)); rfl; intro tr htr) | refine zkc ?_ | refine zz ?_ | refine zkd ?_ | refine zke ?_ | refine zkf ?_ | (refine RKg.split (fun h => ?_) (fun h => ?_) <;> (try rw [h]) <;> (replace h := zB h) <;> (try (exfalso; first | exact h | omega))) | refine zbt ?_ | apply V.regK | refine zva ?_ | refine zvb ?_ | refine zgc ?_ | refine zvd ?_ | refine zve ?_ | (refine zvf (fun h => ?_) (fun h => ?_) <;> (replace h := zB h) <;> (try (exfalso; first | exact h | omega))) | (refine zfc Tryz.results157 ?_; (try dsimp only)))
      rw [e1, e2]
      refine ⟨H.next + 1 + 1, 0, ⟨nl, by omega, by (first | omega | (simp only [next_push, next_set, next_empty]; done) | (simp only [next_push, next_set, next_empty]; omega)), by (first | omega | (simp only [next_push, next_set, next_empty]; done) | (simp only [next_push, next_set, next_empty]; omega)), by omega, ?_, ?_⟩, (((((Fr.refl H n m).setn _).push _).push _).push _).push _ |>.re (by omega), OutS.one _ ?_ ?_ ?_ ?_⟩
      · simp (disch := (first | omega | exact zX | fail)) only [get_set, get_push, next_push, next_set, if_pos', if_neg', if_true, if_false, reduceIte]
        rfl
      · simp (disch := (first | omega | exact zX | fail)) only [get_set, get_push, next_push, next_set, if_pos', if_neg', if_true, if_false, reduceIte]
        rfl
      · (first | omega | (simp only [next_push, next_set, next_empty]; done) | (simp only [next_push, next_set, next_empty]; omega))
      · (first | omega | (simp only [next_push, next_set, next_empty]; done) | (simp only [next_push, next_set, next_empty]; omega))
      · (first | omega | (simp only [next_push, next_set, next_empty]; done) | (simp only [next_push, next_set, next_empty]; omega))
      · simp (disch := (first | omega | exact zX | fail)) only [get_set, get_push, next_push, next_set, if_pos', if_neg', if_true, if_false, reduceIte]
    · have e2 : s.rows.tail ≠ [] := fun h => by rw [h] at htl; simp at htl; omega
      have hCl := fun ys G (x : Ext H G) => CloneR_N (ys := ys) (lo := lo) (H := G) (A := .os m e 1 (s.rows.length - 1)) (hS.tail x (by omega)) e2 (by omega)
      refine zvin Tryz.func157 Tryz.ntmps157 ?_
      repeat' (first | refine zka ?_ | refine zkb ?_ | (apply RKp.op; ((try simp (disch := (first | exact zQ | fail)) only [hb, hm, nth_rowsA, rowsA_len, rowsA_set, hsl, app_rows1 lo, Int.toNat_zero, go_sem]); exact zL); rfl) | (apply RKp.callR; (apply hBl <;> (exact zD)); rfl; intro tr htr) | (apply RKp.callN; (apply hCl <;> (exact zD)); rfl; intro tr htr) | refine zkc ?_ | refine zz ?_ | refine zkd ?_ | refine zke ?_ | refine zkf ?_ | (refine RKg.split (fun h => ?_) (fun h => ?_) <;> (try rw [h]) <;> (replace h := zB h) <;> (try (exfalso; first | exact h | omega))) | refine zbt ?_ | apply V.regK | refine zva ?_ | refine zvb ?_ | refine zgc ?_ | refine zvd ?_ | refine zve ?_ | (refine zvf (fun h => ?_) (fun h => ?_) <;> (replace h := zB h) <;> (try (exfalso; first | exact h | omega))) | (refine zfc Tryz.results157 ?_; (try dsimp only)))
      rw [e1]
      refine ⟨H.next + 1, 1, ⟨nl, by omega, by (first | omega | (simp only [next_push, next_set, next_empty]; done) | (simp only [next_push, next_set, next_empty]; omega)), by (first | omega | (simp only [next_push, next_set, next_empty]; done) | (simp only [next_push, next_set, next_empty]; omega)), by omega, ?_, ?_⟩, (((((Fr.refl H n m).setn _).push _).push _).push _).push _ |>.re (by omega), OutS.one _ ?_ ?_ ?_ ?_⟩
      · simp (disch := (first | omega | exact zX | fail)) only [get_set, get_push, next_push, next_set, if_pos', if_neg', if_true, if_false, reduceIte]
        rw [List.length_append]; rfl
      · simp (disch := (first | omega | exact zX | fail)) only [get_set, get_push, next_push, next_set, if_pos', if_neg', if_true, if_false, reduceIte]
      · (first | omega | (simp only [next_push, next_set, next_empty]; done) | (simp only [next_push, next_set, next_empty]; omega))
      · (first | omega | (simp only [next_push, next_set, next_empty]; done) | (simp only [next_push, next_set, next_empty]; omega))
      · (first | omega | (simp only [next_push, next_set, next_empty]; done) | (simp only [next_push, next_set, next_empty]; omega))
      · simp (disch := (first | omega | exact zX | fail)) only [get_set, get_push, next_push, next_set, if_pos', if_neg', if_true, if_false, reduceIte]
end
end Go.Am
