
/- Screens: where one lies; rows told as they are; small words. -/
import Derived.Test.YtoeemmlfcnokiaaAScr0
set_option linter.all false
set_option linter.deprecated false
namespace Go.Am
open Go.Proofs
set_option maxRecDepth 8000
set_option maxHeartbeats 4000000
def rowsA (l : List Rw) : List (List AV) := l.map fun r => [.sl 3 (cesA r.1), .v (.bool r.2)]
theorem rowsA_len (l : List Rw) : (rowsA l).length = l.length := List.length_map _
theorem nth_rowsA (l : List Rw) (i : Nat) (h : i < l.length) : nth [] (rowsA l) i = [.sl 3 (cesA (l.getD i noRw).1), .v (.bool (l.getD i noRw).2)] := nth_map _ l i noRw h
theorem rowsA_set (l : List Rw) (i : Nat) (c : List Ce) (b : Bool) : (rowsA l).set i [.sl 3 (cesA c), .v (.bool b)] = rowsA (l.set i (c, b)) := by
  unfold rowsA; rw [List.map_set]
theorem rowsA_app (l m : List Rw) : rowsA (l ++ m) = rowsA l ++ rowsA m := List.map_append
/-- A screen: its block n, its rows' block m, turned e times. -/
structure SP (T lo : Nat) (H : AHeap) (n m e : Nat) (s : Sc) : Prop where
  nl : lo ≤ n
  ml : lo ≤ m
  nn : n < H.next
  mn : m < H.next
  ne : n ≠ m
  blk : H.get n = some ⟨T, 6, 0, [[.v (.int .i64 s.w), .v (.int .i64 s.h), .os m e 0 s.rows.length, .v (.int .i64 s.row), .v (.int .i64 s.col), .v (.int .i64 s.attr)]], none⟩
  rows : H.get m = some ⟨45, 2, e, rowsA s.rows, none⟩

/-- All but a screen is as it was. -/
structure Fr (H H' : AHeap) (n m m' : Nat) : Prop where
  next : H.next ≤ H'.next
  js : H'.js = H.js
  keep : ∀ k, k < H.next → k ≠ n → k ≠ m → H'.get k = H.get k
  nw : m' = m ∨ H.next ≤ m'
theorem Fr.refl (H : AHeap) (n m : Nat) : Fr H H n m m := ⟨Nat.le_refl _, rfl, fun _ _ _ _ => rfl, .inl rfl⟩
theorem Fr.trans {H H1 H2 : AHeap} {n m m1 m2 : Nat} (h : Fr H H1 n m m1) (k : Fr H1 H2 n m1 m2) : Fr H H2 n m m2 :=
  ⟨Nat.le_trans h.next k.next, k.js.trans h.js, fun i hi h1 h2 => by
    rw [k.keep i (Nat.lt_of_lt_of_le hi h.next) h1 (by rcases h.nw with e | e <;> omega), h.keep i hi h1 h2], by
    have := h.next; rcases h.nw with e | e <;> rcases k.nw with e' | e' <;> omega⟩
theorem Fr.push {H H1 : AHeap} {n m m1 : Nat} (h : Fr H H1 n m m1) (b : Blk) : Fr H (H1.push b) n m m1 :=
  ⟨by rw [next_push]; have := h.next; omega, h.js, fun i hi h1 h2 => by rw [get_push, if_neg (by have := h.next; omega)]; exact h.keep i hi h1 h2, h.nw⟩
theorem Fr.setn {H H1 : AHeap} {n m m1 : Nat} (h : Fr H H1 n m m1) (b : Blk) : Fr H (H1.set n b) n m m1 :=
  ⟨h.next, h.js, fun i hi h1 h2 => by rw [get_set, if_neg (by omega)]; exact h.keep i hi h1 h2, h.nw⟩
theorem Fr.setm {H H1 : AHeap} {n m m1 : Nat} (h : Fr H H1 n m m1) (b : Blk) : Fr H (H1.set m1 b) n m m1 :=
  ⟨h.next, h.js, fun i hi h1 h2 => by rw [get_set, if_neg (by rcases h.nw with e | e <;> omega)]; exact h.keep i hi h1 h2, h.nw⟩
theorem Fr.ext {H H1 : AHeap} {n m m1 sz : Nat} {x : AV} {es : List (List AV)} (h : Fr H H1 n m m1) (hx : SlH H sz x es) (hk : ∀ k, nameOf x k → k ≠ n ∧ k ≠ m) : SlH H1 sz x es := by
  rcases hx with hx | ⟨k, e, off, b, rfl, hl, hb, he, hi, hs, ho, ht⟩
  · exact .inl hx
  · obtain ⟨h1, h2⟩ := hk k ⟨e, off, _, rfl⟩
    exact .inr ⟨k, e, off, b, rfl, Nat.lt_of_lt_of_le hl h.next, by rw [h.keep k hl h1 h2]; exact hb, he, hi, hs, ho, ht⟩

/-- A screen beside: it stays. -/
theorem SP.fr {T T' lo : Nat} {H H1 : AHeap} {n m e n' m' e' m1 : Nat} {s : Sc} (h : SP T lo H n m e s) (f : Fr H H1 n' m' m1) (h1 : n ≠ n') (h2 : n ≠ m') (h3 : m ≠ n') (h4 : m ≠ m') : SP T lo H1 n m e s :=
  ⟨h.nl, h.ml, Nat.lt_of_lt_of_le h.nn f.next, Nat.lt_of_lt_of_le h.mn f.next, h.ne, by rw [f.keep n h.nn h1 h2]; exact h.blk, by rw [f.keep m h.mn h3 h4]; exact h.rows⟩
theorem SP.ext {T lo : Nat} {H H1 : AHeap} {n m e : Nat} {s : Sc} (h : SP T lo H n m e s) (f : Ext H H1) : SP T lo H1 n m e s :=
  ⟨h.nl, h.ml, Nat.lt_of_lt_of_le h.nn f.next, Nat.lt_of_lt_of_le h.mn f.next, h.ne, by rw [f.get n h.nn]; exact h.blk, by rw [f.get m h.mn]; exact h.rows⟩

/-- Its own block turned. -/
theorem SP.turn {T lo : Nat} {H : AHeap} {n m e : Nat} {s : Sc} (h : SP T lo H n m e s) (s' : Sc) (hr : s'.rows = s.rows) : SP T lo (H.set n ⟨T, 6, 0, [[.v (.int .i64 s'.w), .v (.int .i64 s'.h), .os m e 0 s.rows.length, .v (.int .i64 s'.row), .v (.int .i64 s'.col), .v (.int .i64 s'.attr)]], none⟩) n m e s' :=
  ⟨h.nl, h.ml, h.nn, h.mn, h.ne, by rw [get_set, if_pos rfl, hr], by rw [get_set, if_neg h.ne, hr]; exact h.rows⟩
theorem SP.turnL {T lo : Nat} {H : AHeap} {n m e : Nat} {s : Sc} (h : SP T lo H n m e s) (s' : Sc) (hr : s'.rows = s.rows) (len : Nat) (hl : s.rows.length = len) : SP T lo (H.set n ⟨T, 6, 0, [[.v (.int .i64 s'.w), .v (.int .i64 s'.h), .os m e 0 len, .v (.int .i64 s'.row), .v (.int .i64 s'.col), .v (.int .i64 s'.attr)]], none⟩) n m e s' := hl ▸ h.turn s' hr

/-- Its rows turned. -/
theorem SP.setm {T lo : Nat} {H : AHeap} {n m e : Nat} {s : Sc} (h : SP T lo H n m e s) (r : List Rw) (hl : r.length = s.rows.length) : SP T lo (H.set m ⟨45, 2, e, rowsA r, none⟩) n m e { s with rows := r } :=
  ⟨h.nl, h.ml, h.nn, h.mn, h.ne, by rw [get_set, if_neg (fun e => h.ne e.symm)]; have hb := h.blk; rw [← hl] at hb; exact hb, by rw [get_set, if_pos rfl]⟩

/-- Rows that are handed over. -/
structure OutS (H H' : AHeap) (m' : Nat) (x : AV) (l : List Rw) : Prop where
  sl : SlH H' 2 x (rowsA l)
  nw : ∀ k, nameOf x k → H.next ≤ k ∧ k ≠ m'
theorem OutS.nil (H H' : AHeap) (m' : Nat) : OutS H H' m' (.v (.slice none 0 0)) [] := ⟨.inl (.inr ⟨rfl, .inr rfl⟩), fun k ⟨_, _, _, h⟩ => by cases h⟩
theorem OutS.one {H H' : AHeap} {m' : Nat} {r : Rw} (k : Nat) (hk : H.next ≤ k) (hl : k < H'.next) (hne : k ≠ m') (hg : H'.get k = some ⟨45, 2, 0, [[.sl 3 (cesA r.1), .v (.bool r.2)]], none⟩) : OutS H H' m' (.os k 0 0 1) [r] :=
  ⟨.inr ⟨k, 0, 0, _, rfl, hl, hg, rfl, rfl, rfl, by simp [rowsA], by simp [rowsA]⟩, fun j ⟨_, _, _, h⟩ => by cases h; exact ⟨hk, hne⟩⟩
theorem OutS.from {H0 H H' : AHeap} {m' : Nat} {x : AV} {l : List Rw} (h : OutS H0 H' m' x l) (hn : H.next ≤ H0.next) : OutS H H' m' x l := ⟨h.sl, fun k hk => by have := h.nw k hk; exact ⟨by omega, this.2⟩⟩
theorem OutS.ext {H H' G : AHeap} {m' : Nat} {x : AV} {l : List Rw} (h : OutS H H' m' x l) (hx : Ext H' G) : OutS H G m' x l := ⟨h.sl.ext hx, h.nw⟩
theorem Fr.re {H H1 : AHeap} {n m m1 m' : Nat} (h : Fr H H1 n m m1) (hm : H.next ≤ m') : Fr H H1 n m m' := ⟨h.next, h.js, h.keep, .inr hm⟩
theorem Sl_ne {sz : Nat} {x : AV} {es : List (List AV)} (h : Sl sz x es) (hne : es ≠ []) : x = .sl sz es := by
  rcases h with h | ⟨h, _⟩
  · exact h
  · exact absurd h hne
theorem CallRoE.anyH {E : Env} {ys ys' : List (Nat × LRec)} {lo lo' : Nat} {f : FuncId} {args : List AV} {H0 H : AHeap} {P : AV → Prop} (hpol : E.pol f = .pure) (hn : args.all nf = true) (h : CallRoE E ys lo f args H0 P) : CallRoE E ys' lo' f args H P := by
  obtain ⟨x, tr, h0, ⟨n, h1⟩, h2⟩ := h
  simp only [runPlan, hpol, hn, if_true] at h1
  have e1 : ∀ ys lo, (callF E (exec E n) ys lo).call false 0 f args .empty = callG E (exec E n) [] 0 f args .empty := fun ys lo => rfl
  rw [e1] at h1
  cases hc : callG E (exec E n) [] 0 f args .empty with
  | none => rw [hc] at h1; cases h1
  | some p =>
    obtain ⟨r, H'⟩ := p
    rw [hc] at h1
    simp only [hand_pure, fNat_eq, Option.some.injEq, Prod.mk.injEq] at h1
    refine ⟨x, ⟨0, 0, 0⟩, RoT.zero, ⟨n, ?_⟩, h2⟩
    have hz : newBits H.next (H.next - H.next) = 0 := by simp [newBits]
    simp only [runPlan, hpol, hn, if_true, e1, hc, hand_pure, fNat_eq, hz]
    rw [← h1.1, renV_base _ _ _ H0.next]
theorem CallRoE.ro {E : Env} {ys : List (Nat × LRec)} {lo : Nat} {f : FuncId} {args : List AV} {H : AHeap} {P : AV → Prop} {y : AV} (h : CallRoE E ys lo f args H P) (hP : ∀ x, P x → x = y) : CallRo E ys lo f args H y := by
  obtain ⟨x, tr, h0, h1, h2⟩ := h
  rw [hP x h2] at h1
  exact ⟨tr, h0, h1⟩
theorem ces_ne {l : List Ce} (h : l ≠ []) : cesA l ≠ [] := fun e => h (ces_nil.1 e)
theorem len_ne {l m : List Ce} (h : m ≠ []) (e : l.length = m.length) : l ≠ [] := by
  rintro rfl
  exact h (List.eq_nil_of_length_eq_zero e.symm)
section
variable {ys : List (Nat × LRec)} {lo : Nat} {H : AHeap} {A B : AV} {l m : List Ce} {wr : Bool}
theorem Set_D (hB : SlH H 3 B (cesA m)) (h0 : l ≠ []) (hl : l.length < 2 ^ 40) (hm : m.length < 2 ^ 40) (col : Int) (hc : -9223372036854775808 ≤ col ∧ col ≤ 9223372036854775807) : CallRo EA ys lo 24 [.agg [.sl 3 (cesA l), .v (.bool wr)], .v (.int .i64 col), B] H (.tup [.agg [.sl 3 (cesA (setL l col m)), .v (.bool wr)], .v (.bool (decide (setOk l col m)))]) :=
  (Set_run (.inl (.inl rfl)) hB hl hm col hc).ro fun x hx => by
    obtain ⟨A', rfl, hA'⟩ := hx.norm (.inl rfl)
    rw [Sl_ne hA' (ces_ne (len_ne h0 (setL_len l m col)))]
theorem Sl_empty {sz : Nat} {x : AV} {es : List (List AV)} (h : SlH .empty sz x es) : Sl sz x es := by
  rcases h with h | ⟨n, e, off, b, rfl, hn, _⟩
  · exact h
  · exact absurd hn (Nat.not_lt_zero _)
theorem Erase_D (h0 : l ≠ []) (hl : l.length < 2 ^ 40) (a b : Int) (ha : -9223372036854775808 ≤ a ∧ a ≤ 9223372036854775807) (hb : -9223372036854775808 ≤ b ∧ b ≤ 9223372036854775807) : CallRo EA ys lo 25 [.agg [.sl 3 (cesA l), .v (.bool wr)], .v (.int .i64 a), .v (.int .i64 b)] H (.tup [.agg [.sl 3 (cesA (erL l a b)), .v (.bool (erW l wr a b))], .v (.bool (decide (eraOk l a b)))]) :=
  (CallRoE.anyH (ys := []) (lo := 0) (H0 := .empty) rfl rfl (Erase_run (.inl (.inl rfl)) hl a b ha hb)).ro fun x hx => by
    obtain ⟨A', rfl, hA'⟩ := hx.norm (.inl rfl)
    rw [Sl_ne (Sl_empty hA') (ces_ne (len_ne h0 (erL_len l a b)))]
theorem Blank_D (w : Int) (h0 : 1 ≤ w) (h : w ≤ 300) : CallRo EA ys lo 23 [.v (.int .i64 w)] H (.agg [.sl 3 (cesA (blanks w.toNat)), .v (.bool false)]) := by
  have := rowBlank_run (ys := ys) (lo := lo) (H := H) w (by omega)
  rw [show (min (max w 0) 300).toNat = w.toNat by omega] at this
  exact this
theorem within_run (n a b : Int) : CallR EA ys lo 52 [.v (.int .i64 n), .v (.int .i64 a), .v (.int .i64 b)] H (.v (.int .i64 (min (max n a) b))) H ⟨0, 0, 0⟩ := by
  refine WC.pure' rfl rfl ?_ _ _ _
  refine zvin Try.func52 Try.ntmps52 ?_
  repeat' (first
   | refine zka ?_
   | refine zkb ?_
   | (apply RKp.op; ((try simp (disch := (first | omega | exact zX | fail)) only [go_sem, Nat.reduceDiv, Nat.reduceMod, Nat.reduceAdd, Nat.reduceSub, Nat.reduceEqDiff, Nat.reduceLeDiff, Nat.reduceLT, Nat.reduceMul, reduceIte, Nat.reducePow, Int.reduceEq]); exact zL); rfl)
   | refine zkc ?_
   | apply RKg.tt
   | apply RKg.ff
   | refine zkd ?_
   | refine zke ?_
   | refine zkf ?_
   | (refine RKg.split (fun h => ?_) (fun h => ?_) <;> (try rw [h]) <;> (replace h := zB h) <;> (try (exfalso; first | exact h | omega)))
   | apply RK.nil
   | apply V.sq
   | apply V.bl
   | apply V.sc
   | apply V.skip
   | apply V.label
   | apply V.ret
   | apply V.exit
   | apply SeqQ.normal
   | apply SeqQ.ret
   | apply SeqQ.exit
   | apply BlockQ.normal
   | apply BlockQ.ret
   | apply BlockQ.here
   | refine zbt ?_
   | apply LoopS.ret
   | apply LoopS.exit
   | apply LoopF.ret
   | apply LoopF.exit
   | apply V.regK
   | refine zvd ?_
   | refine zve ?_
   | (refine zvf (fun h => ?_) (fun h => ?_) <;> (replace h := zB h) <;> (try (exfalso; first | exact h | omega)))
    | (refine zfc Try.results52 ?_; (try dsimp only)))
  rfl
end
/-! Facts about a slice of numbers, on every heap that goes on from where it was. -/
section
variable (lo : Nat) {H0 : AHeap} {A : AV} {a : List Int} (hA : SlH H0 1 A (ints a)) (H : AHeap) (hx : Ext H0 H)
include hA hx
theorem len_intX : primL lo H (builtinA EA .len #[25] 3 [A]) = some (.v (.int .i64 a.length), H, rdTr A) := by
  have := len_SlH EA lo 25 3 (hA.ext hx) (by kernel_rfl)
  rw [ints_len] at this; exact this
theorem ix_intX (κ : IntKind) (z : Int) (h0 : 0 ≤ z) (h1 : z < a.length) : primL lo H (indexAddrA EA 25 A (.v (.int κ z))) = some (ixA A (ints a) z.toNat, H, rdTr A) :=
  ix_SlH EA lo 25 κ z (hA.ext hx) (by kernel_rfl) h0 (by rw [ints_len]; exact h1)
theorem ld_intX (j : Nat) (h : j < a.length) : primL lo H (loadA EA 3 (ixA A (ints a) j)) = some (.v (.int .i64 (a.getD j 0)), H, rdTr A) := by
  rw [load_SlH EA lo 3 j (hA.ext hx) (by rw [ints_len]; exact h), nth_ints a j h]; rfl
end
section
variable {ys : List (Nat × LRec)} {lo : Nat} {H : AHeap} {A : AV} {a : List Int}
theorem number_R (hA : SlH H 1 A (ints a)) (hl : a.length < 2 ^ 40) (k r : Int) (t : ByteArray) (i d : Int) (h0 : 0 ≤ i) (hi : i ≤ 1) : CallRo EA ys lo 59 [.agg [.v (.int .i64 k), .v (.int .i32 r), A, .v (.string t)], .v (.int .i64 i), .v (.int .i64 d)] H (.v (.int .i64 (argI a i.toNat d))) := by
  refine WC.pureR rfl fun lo' H' hh => ?_
  have hA' := (hA.two (.inr ⟨[.v (.int .i64 k), .v (.int .i32 r), A, .v (.string t)], .inl (by simp)⟩) hh)
  have hi' : a.length ≤ i.toNat → a.getD i.toNat 0 = 0 := fun h => by simp [List.getD_eq_getElem?_getD, List.getElem?_eq_none h]
  refine zvin Try.func59 Try.ntmps59 ?_
  repeat' (first
   | refine zka ?_
   | refine zkb ?_
   | (apply RKp.op; ((try simp (disch := (first | omega | exact zX | fail)) only [len_intX lo' hA', ix_intX lo' hA', ld_intX lo' hA', go_sem, Nat.reduceDiv, Nat.reduceMod, Nat.reduceAdd, Nat.reduceSub, Nat.reduceEqDiff, Nat.reduceLeDiff, Nat.reduceLT, Nat.reduceMul, reduceIte, Nat.reducePow, Int.reduceEq]); exact zL); rfl)
   | refine zkc ?_
   | apply RKg.tt
   | apply RKg.ff
   | refine zkd ?_
   | refine zke ?_
   | refine zkf ?_
   | (refine RKg.split (fun h => ?_) (fun h => ?_) <;> (try rw [h]) <;> (replace h := zB h) <;> (try (exfalso; first | exact h | omega)))
   | apply RK.nil
   | apply V.sq
   | apply V.bl
   | apply V.sc
   | apply V.skip
   | apply V.label
   | apply V.ret
   | apply V.exit
   | apply SeqQ.normal
   | apply SeqQ.ret
   | apply SeqQ.exit
   | apply BlockQ.normal
   | apply BlockQ.ret
   | apply BlockQ.here
   | refine zbt ?_
   | apply LoopS.ret
   | apply LoopS.exit
   | apply LoopF.ret
   | apply LoopF.exit
   | apply V.regK
   | refine zvd ?_
   | refine zve ?_
   | (refine zvf (fun h => ?_) (fun h => ?_) <;> (replace h := zB h) <;> (try (exfalso; first | exact h | omega)))
    | (refine zfc Try.results59 ?_; (try dsimp only)))
  all_goals (rw [frzR_v]; unfold argI; congr 2; grind)
end
end Go.Am
