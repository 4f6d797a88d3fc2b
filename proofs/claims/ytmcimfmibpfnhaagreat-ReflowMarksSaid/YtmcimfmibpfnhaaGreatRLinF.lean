/- Parts of the proof: RLinD RLinE RLinF. -/
import Derived.Test.YtmcimfmibpfnhaaGreatRLinC
import Derived.Test.YtmcimfmibpfnhaaGreatRRowZ
import Derived.Test.YtmcimfmibpfnhaaGreatRRowK
set_option linter.all false
set_option linter.deprecated false

namespace Go.Am
variable {oc : Orc} [OrcI oc]
open Go.Proofs
set_option maxRecDepth 8000
set_option maxHeartbeats 4000000

/-- Rows, frozen; nil if there are none. -/
def rwA (l : List Rw) : AV := if l = [] then nilA else .sl 2 (rowsA l)
theorem rwA_Sl (l : List Rw) : Sl 2 (rwA l) (rowsA l) := by
  unfold rwA
  split
  · rename_i h; subst h; exact .inr ⟨rfl, .inr rfl⟩
  · exact .inl rfl
theorem RsP.rowsA {l : List Rw} (h : ∀ r ∈ l, r.1.length < 2 ^ 20) (h32 : ∀ r ∈ l, R32 r.1) : RsP (rowsA l) l := by
  have hm : ∀ j, j < l.length → l.getD j noRw ∈ l := fun j hj => by
    rw [List.getD_eq_getElem?_getD, List.getElem?_eq_getElem hj]; exact List.getElem_mem hj
  have hb : ∀ j, j < l.length → bOf (Go.Am.rowsA l) j = .sl 3 (cesA (l.getD j noRw).1) := fun j hj => by
    unfold bOf; rw [nth_rowsA l j hj]; rfl
  refine ⟨rowsA_len l, fun j hj => by rw [hb j hj]; exact nth_rowsA l j hj, fun j hj => by rw [hb j hj]; exact .inl rfl, fun j hj => h _ (hm j hj), fun j hj => h32 _ (hm j hj)⟩
/-! A row under way. -/
def padRow (w : Nat) (cur : List Ce) : List Ce := cur ++ blanks (w - cur.length)
theorem padRow_len {w : Nat} {cur : List Ce} (h : cur.length ≤ w) : (padRow w cur).length = w := by
  unfold padRow; rw [List.length_append, blanks_len]; omega
theorem padRow_full {w : Nat} {cur : List Ce} (h : cur.length = w) : padRow w cur = cur := by
  unfold padRow; rw [h, Nat.sub_self]; exact List.append_nil cur
theorem padRow_set {w k : Nat} {cur : List Ce} {c : Ce} (hk : k = cur.length) (h : cur.length < w) : (padRow w cur).set k c = padRow w (cur ++ [c]) := by
  subst hk
  unfold padRow
  obtain ⟨j, hj⟩ : ∃ j, w - cur.length = j + 1 := ⟨w - cur.length - 1, by omega⟩
  have e : w - (cur ++ [c]).length = j := by rw [List.length_append]; show w - (cur.length + 1) = j; omega
  rw [hj, e, List.set_append_right _ _ (Nat.le_refl _), Nat.sub_self, List.append_assoc]
  rfl
theorem nth_last {α : Type} {es : List (List α)} {x : List α} {k : Nat} (h : k = es.length) : nth [] (es ++ [x]) k = x := by
  subst h
  rw [nth_getD, List.getD_eq_getElem?_getD, List.getElem?_append_right (Nat.le_refl _), Nat.sub_self]; rfl
theorem set_last {α : Type} {es : List α} {x y : α} {k : Nat} (h : k = es.length) : (es ++ [x]).set k y = es ++ [y] := by
  subst h
  rw [List.set_append_right _ _ (Nat.le_refl _), Nat.sub_self]; rfl

/-- Rows in a block, their cells by names from lo on, or frozen. -/
def RowsLv (H : AHeap) (lo : Nat) (es : List (List AV)) (rows : List Rw) : Prop :=
  es.length = rows.length ∧ ∀ j, j < rows.length → ∃ A, nth [] es j = [A, .v (.bool (rows.getD j noRw).2)] ∧ SlH H 3 A (cesA (rows.getD j noRw).1) ∧ ∀ k, nameOf A k → lo ≤ k
theorem frz_rowsLv {H : AHeap} {lo n e len : Nat} {es : List (List AV)} {rows : List Rw} (hl : lo ≤ n) (hg : H.get n = some ⟨48, 2, e, es, none⟩) (h : RowsLv H lo es rows) (hne : ∀ r ∈ rows, r.1 ≠ []) (hlen : len = rows.length) : frzR H lo (.os n e 0 len) = .sl 2 (rowsA rows) := by
  obtain ⟨h1, h2⟩ := h
  have hb : badN lo [] n = false := by
    cases hc : badN lo [] n with
    | false => rfl
    | true =>
      simp only [badN, List.any_nil, Bool.or_false, Nat.blt_eq] at hc
      omega
  have key : es.map (fun c => c.map (frz H (badN lo []) 11)) = rowsA rows := by
    apply List.ext_getElem
    · rw [List.length_map, rowsA_len]; exact h1
    intro j k1 k2
    rw [List.length_map] at k1
    have hj : j < rows.length := by omega
    obtain ⟨A, e1, e2, e3⟩ := h2 j hj
    rw [List.getElem_map]
    have e4 : es[j] = [A, .v (.bool (rows.getD j noRw).2)] := by
      rw [← e1, nth_getD, List.getD_eq_getElem?_getD, List.getElem?_eq_getElem k1]; rfl
    have e5 : (rowsA rows)[j] = [.sl 3 (cesA (rows.getD j noRw).1), .v (.bool (rows.getD j noRw).2)] := by
      rw [← nth_rowsA rows j hj, nth_getD, List.getD_eq_getElem?_getD, List.getElem?_eq_getElem k2]; rfl
    have hm : rows.getD j noRw ∈ rows := by rw [List.getD_eq_getElem?_getD, List.getElem?_eq_getElem hj]; exact List.getElem_mem hj
    rw [e4, e5, List.map_cons, List.map_cons, List.map_nil, frz_SlH e2 (ces_ne (hne _ hm)) (flat_ces _) (by omega) e3 9]
    rfl
  show (if n < lo then _ else Go.Am.frz H (badN lo []) 12 (.os n e 0 len)) = _
  rw [if_neg (by omega)]
  show (if badN lo [] n then AV.dead else match H.get n with
      | some b => if b.ep = e ∧ b.it.isNone ∧ 0 + len ≤ b.es.length ∧ 0 < b.sz then .sl b.sz (((b.es.drop 0).take len).map fun c => c.map (Go.Am.frz H (badN lo []) 11)) else .dead
      | none => .dead) = _
  rw [hb, if_neg (by decide), hg]
  show (if e = e ∧ (none : Option (ByteArray × Nat)).isNone = true ∧ 0 + len ≤ es.length ∧ 0 < 2 then AV.sl 2 (((es.drop 0).take len).map fun c => c.map (Go.Am.frz H (badN lo []) 11)) else .dead) = _
  rw [if_pos ⟨rfl, rfl, by omega, by omega⟩, List.drop_zero, List.take_of_length_le (by omega), key]
section
variable {ys : List (Nat × LRec)} {lo : Nat} {H : AHeap} {A : AV} {l : List Ce} {es : List (List AV)} {ls : List (List Ce)}
theorem Repeat_own (k n : Nat) (hk : k < H.next) (hg : H.get k = some (cblk 0 [blankC])) (hn : n ≤ 300) : CallN (ELo oc) ys lo 110 [.os k 0 0 1, .v (.int .i64 n)] H (.os H.next 0 0 n) (H.push (cblk 0 (blanks n))) := by
  refine WC.ownN (x := fun m => .os m 0 0 n) (bs := fun _ => [cblk 0 (blanks n)]) rfl fun lo' H' hh => ?_
  rcases hh with ⟨hlo, rfl⟩ | ⟨_, _, hnf⟩
  · have hgx : ∀ b, (H'.push b).get k = some (cblk 0 [blankC]) := fun b => by rw [get_push, if_neg (by omega)]; exact hg
    have hcp := copy_two lo' (H := H'.push (cblk 0 (zeros n))) (n := H'.next) (e := 0) (off := 0) (len := n) (m := k) (e' := 0) (off' := 0) (len' := 1) (l := zeros n) (l' := [blankC]) 3 41 (by rw [get_push, if_pos rfl]) (hgx _) (by omega) (by simp [zeros]) (by simp) (by omega)
    have hmk := fun H => mk_cell lo' H n hn
    refine zvin Tryz.func110 Tryz.ntmps110 ?_
    repeat' (first | refine zka ?_ | refine zkb ?_ | (apply RKp.op; ((try simp (disch := (first | omega | exact zX | exact zO | fail)) only [wrap_u64, plan_makeSlice, hmk, hcp, hg, go_sem, Nat.reduceDiv, Nat.reduceMod, Nat.reduceAdd, Nat.reduceSub, Nat.reduceEqDiff, Nat.reduceLeDiff, Nat.reduceLT, Nat.reduceMul, reduceIte, Nat.reducePow, Int.reduceEq]); exact zL); rfl) | (apply RKp.call; (apply Mul_run <;> (exact zD)); rfl) | refine zkc ?_ | apply RKg.tt | apply RKg.ff | refine zkd ?_ | refine zke ?_ | refine zkf ?_ | (refine RKg.split (fun h => ?_) (fun h => ?_) <;> (try rw [h]) <;> (replace h := zB h) <;> (try (exfalso; first | exact h | omega))) | apply RK.nil | apply V.sq | apply V.bl | apply V.sc | apply V.skip | apply V.label | apply V.ret | apply V.exit | apply SeqQ.normal | apply SeqQ.ret | apply SeqQ.exit | apply BlockQ.normal | apply BlockQ.ret | apply BlockQ.here | refine zbt ?_ | apply LoopS.ret | apply LoopS.exit | apply LoopF.ret | apply LoopF.exit | apply V.regK | refine zva ?_ | refine zvb ?_ | refine zgc ?_ | refine zvd ?_ | refine zve ?_ | (refine zvf (fun h => ?_) (fun h => ?_) <;> (replace h := zB h) <;> (try (exfalso; first | exact h | omega))) | (refine zfc Tryz.results110 ?_; (try dsimp only)))
    apply V.lpS [8, 34, 35, 36, 37, 38, 39, 40, 41, 42, 43, 44, 45, 46] (fun k xs H2 => ∃ (i : Nat) (g : _), xs = .v (.int .i64 i) :: g ∧ k = n - i ∧ i ≤ n ∧ (0 < n → 0 < i) ∧ H'.next < H2.next ∧ H2.get H'.next = some (cblk 0 (blanks i ++ zeros (n - i)))) (n - min 1 n)
    focus (intro xs; simp only [putMany, set2, Nat.reduceAdd, Nat.reduceDiv, Nat.reduceMod, nth_zero, nth_succ, List.set_cons_zero, List.set_cons_succ]; rfl)
    focus (first | rfl | simp only [readMany, nth_zero, nth_succ, Nat.reduceDiv, Nat.reduceMod])
    · refine ⟨min 1 n, _, rfl, by omega, by omega, by omega, by (first | omega | (simp only [next_push, next_set, next_empty]; done) | (simp only [next_push, next_set, next_empty]; omega)), ?_⟩
      rw [get_push, if_pos rfl]
      congr 2
      rcases Nat.eq_zero_or_pos n with h0 | h0
      · subst h0; rfl
      · obtain ⟨j, rfl⟩ : ∃ j, n = j + 1 := ⟨n - 1, by omega⟩
        rw [Nat.min_eq_left (by omega)]
        simp [overC, zeros, blanks, List.replicate_succ]
    · rintro k' xs H2 ⟨i, g, rfl, rfl, hi, hp, hn2, g0⟩
      have hlen : (blanks i ++ zeros (n - i)).length = n := by simp [blanks, zeros]; omega
      have hsl : SlH H2 3 (.os H'.next 0 0 n) (cesA (blanks i ++ zeros (n - i))) := .inr ⟨H'.next, 0, 0, _, by rw [ces_len, hlen], hn2, g0, rfl, rfl, rfl, by simp only [Nat.zero_add, Nat.le_refl], by simp only [List.drop_zero, List.take_length]⟩
      have s1 := sl_lo lo' hsl .i64 i (by omega) (by omega)
      have s2 := sl_hi lo' hsl .i64 i (by omega) (by omega)
      rw [ces_len, hlen] at s1
      simp only [cutA, Int.toNat_natCast, Nat.zero_add, Nat.add_zero, Nat.sub_zero] at s1 s2
      have hcp := copy_self lo' (off := i) (len := n - i) (off' := 0) (len' := i) 3 41 g0 (by omega) (by omega) (by omega)
      have hln : (cesA (blanks i ++ zeros (n - i))).length = n := by rw [ces_len, hlen]
      repeat' (first | refine zka ?_ | refine zkb ?_ | (apply RKp.op; ((try simp (disch := (first | omega | exact zX | exact zO | fail)) only [s1, s2, hcp, g0, hln, List.length_take, Nat.min_self, go_sem, Nat.reduceDiv, Nat.reduceMod, Nat.reduceAdd, Nat.reduceSub, Nat.reduceEqDiff, Nat.reduceLeDiff, Nat.reduceLT, Nat.reduceMul, reduceIte, Nat.reducePow, Int.reduceEq]); exact zL); rfl) | refine zkc ?_ | apply RKg.tt | apply RKg.ff | refine zkd ?_ | refine zke ?_ | refine zkf ?_ | (refine RKg.split (fun h => ?_) (fun h => ?_) <;> (try rw [h]) <;> (replace h := zB h) <;> (try (exfalso; first | exact h | omega))) | apply RK.nil | apply V.sq | apply V.bl | apply V.sc | apply V.skip | apply V.label | apply V.ret | apply V.exit | apply SeqQ.normal | apply SeqQ.ret | apply SeqQ.exit | apply BlockQ.normal | apply BlockQ.ret | apply BlockQ.here | refine zbt ?_ | apply LoopS.ret | apply LoopS.exit | apply LoopF.ret | apply LoopF.exit | apply V.regK | refine zva ?_ | refine zvb ?_ | refine zgc ?_ | refine zvd ?_ | refine zve ?_ | (refine zvf (fun h => ?_) (fun h => ?_) <;> (replace h := zB h) <;> (try (exfalso; first | exact h | omega))) | (refine zfc Tryz.results110 ?_; (try dsimp only)))
      · refine LoopS.again (n - (i + min i (n - i))) (by rfl) (by omega) ⟨i + min i (n - i), _, by rw [show ((i + min i (n - i) : Nat) : Int) = (i : Int) + ((min i (n - i) : Nat) : Int) by omega]; rfl, rfl, by omega, by omega, by (first | omega | (simp only [next_push, next_set, next_empty]; done) | (simp only [next_push, next_set, next_empty]; omega)), ?_⟩
        rw [get_set, if_pos rfl]
        congr 2
        refine ce_ext (by simp [overC, blanks, zeros]; omega) fun j hj => ?_
        simp only [overC, blanks, zeros, List.getD_eq_getElem?_getD]
        grind
      · have : i = n := by omega
        subst this
        have e : blanks i ++ zeros (i - i) = blanks i := by simp [zeros]
        rw [e] at g0
        exact hands_os (b := cblk 0 (blanks i)) (by omega) g0 rfl (flat_ces _)
  · cases hnf
theorem rowBlank_own (w : Int) (w0 : 0 ≤ w) (w3 : w ≤ 300) : CallN (ELo oc) ys lo 75 [.v (.int .i64 w)] H (rowA (.os H.next 0 0 w.toNat) false) (H.push (cblk 0 (blanks w.toNat))) := by
  refine WC.ownN (x := fun m => rowA (.os m 0 0 w.toNat) false) (bs := fun _ => [cblk 0 (blanks w.toNat)]) rfl fun lo' H' hh => ?_
  have hlo := lo_two hh
  have hn : (((w.toNat : Nat) : Int)) = min (max w 0) 300 := by omega
  have hrep := Repeat_own (ys := []) (lo := lo') (H := (H'.push zblk).push (cblk 0 [blankC])) (H'.next + 1) w.toNat (by simp only [next_push]; omega) (by simp (disch := (first | omega | exact zX | fail)) only [get_set, get_push, next_push, next_set, if_pos', if_neg', if_true, if_false, reduceIte]) (by omega)
  rw [hn] at hrep
  refine zvin Tryz.func75 Tryz.ntmps75 ?_
  repeat' (first | refine zka ?_ | refine zkb ?_ | (apply RKp.op; ((try simp (disch := (first | omega | exact zX | exact zO | fail)) only [go_sem, Nat.reduceDiv, Nat.reduceMod, Nat.reduceAdd, Nat.reduceSub, Nat.reduceEqDiff, Nat.reduceLeDiff, Nat.reduceLT, Nat.reduceMul, reduceIte, Nat.reducePow, Int.reduceEq]); exact zL); rfl) | (apply RKp.call; (apply Blank_run <;> (exact zD)); rfl) | (apply RKp.callN; (apply hrep <;> (exact zD)); rfl; intro tr htr) | refine zkc ?_ | apply RKg.tt | apply RKg.ff | refine zkd ?_ | refine zke ?_ | refine zkf ?_ | (refine RKg.split (fun h => ?_) (fun h => ?_) <;> (try rw [h]) <;> (replace h := zB h) <;> (try (exfalso; first | exact h | omega))) | apply RK.nil | apply V.sq | apply V.bl | apply V.sc | apply V.skip | apply V.label | apply V.ret | apply V.exit | apply SeqQ.normal | apply SeqQ.ret | apply SeqQ.exit | apply BlockQ.normal | apply BlockQ.ret | apply BlockQ.here | refine zbt ?_ | apply LoopS.ret | apply LoopS.exit | apply LoopF.ret | apply LoopF.exit | apply V.regK | refine zvd ?_ | refine zve ?_ | (refine zvf (fun h => ?_) (fun h => ?_) <;> (replace h := zB h) <;> (try (exfalso; first | exact h | omega))) | (refine FnQ.retB (resc Tryz.results75) (by simp (disch := (first | omega | exact zX | exact zO | fail)) only [cellR_op, go_sem, Nat.reduceDiv, Nat.reduceMod, Nat.reduceAdd, Nat.reduceSub, Nat.reduceEqDiff, Nat.reduceLeDiff, Nat.reduceLT, Nat.reduceMul, reduceIte, Nat.reducePow, Int.reduceEq]; rfl) ?_; (try dsimp only)))
  refine hands_agg (b := cblk 0 (blanks w.toNat)) ?_ ?_ rfl (flat_ces _)
  · omega
  · simp (disch := (first | omega | exact zX | fail)) only [get_set, get_push, next_push, next_set, if_pos', if_neg', if_true, if_false, reduceIte]
end
end Go.Am

namespace Go.Am
variable {oc : Orc} [OrcI oc]
open Go.Proofs
set_option maxRecDepth 8000
set_option maxHeartbeats 8000000
theorem flatRowsA (l : List Rw) : FlatE (rowsA l) := FlatE.map (fun c x hx => by simp at hx; rcases hx with rfl | rfl <;> rfl) l
theorem own_rwA {H : AHeap} {lo base : Nat} {x : AV} {l : List Rw} (ho : OwS H base 48 2 x (rowsA l)) (h0 : l = [] → x = nilA) (hb : lo ≤ base) : frzR H lo x = rwA l := by
  by_cases hl : l = []
  · subst hl; rw [h0 rfl]; rfl
  · rcases ho with ⟨h1, _⟩ | ⟨n, e, rfl, h1, h2, h3⟩
    · have := congrArg List.length h1
      rw [rowsA_len] at this
      exact absurd (List.eq_nil_of_length_eq_zero this) hl
    · rw [frzR_os H lo (by omega) h3 rfl rfl (by simp) (show 0 < 2 by decide) (flatRowsA l)]
      simp [rwA, hl]

/-- Rows under way: the block n of rows, the last row's cells in m. -/
structure LayH (H : AHeap) (base w n m e : Nat) (es : List (List AV)) (done : List Rw) (cur : List Ce) : Prop where
  bn : base ≤ n
  bm : base ≤ m
  nn : n < H.next
  mn : m < H.next
  ne : n ≠ m
  gn : H.get n = some ⟨48, 2, e, es ++ [[.os m 0 0 w, .v (.bool false)]], none⟩
  gm : H.get m = some (cblk 0 (padRow w cur))
  el : es.length = done.length
  dn : ∀ j, j < done.length → ∃ m', nth [] es j = [.os m' 0 0 w, .v (.bool (done.getD j noRw).2)] ∧ m' ≠ n ∧ m' ≠ m ∧ base ≤ m' ∧ m' < H.next ∧ H.get m' = some (cblk 0 (done.getD j noRw).1) ∧ (done.getD j noRw).1.length = w

/-- A row is full: another one. -/
theorem LayH.wrap {H H' : AHeap} {base w n m m2 e : Nat} {es : List (List AV)} {done : List Rw} {cur row : List Ce} (h : LayH H base w n m e es done cur) (hm2 : H.next ≤ m2) (hn' : m2 < H'.next) (hnx : H.next ≤ H'.next) {c : List Ce}
    (gn : H'.get n = some ⟨48, 2, e + 1, (es ++ [[.os m 0 0 w, .v (.bool true)]]) ++ [[.os m2 0 0 w, .v (.bool false)]], none⟩) (gm : H'.get m = some (cblk 0 row)) (g2 : H'.get m2 = some (cblk 0 (padRow w c))) (hr : row.length = w)
    (hk : ∀ k, k < H.next → k ≠ n → k ≠ m → H'.get k = H.get k) : LayH H' base w n m2 (e + 1) (es ++ [[.os m 0 0 w, .v (.bool true)]]) (done ++ [(row, true)]) c := by
  have hbm := h.bm; have hbn := h.bn; have hnn := h.nn; have hmn := h.mn; have hne := h.ne
  refine ⟨hbn, by omega, by omega, hn', by omega, gn, g2, by rw [List.length_append, List.length_append, h.el]; rfl, fun j hj => ?_⟩
  rw [List.length_append] at hj
  have hj' : j < done.length + 1 := hj
  by_cases e1 : j < done.length
  · obtain ⟨m', q1, q2, q3, q4, q5, q6, q7⟩ := h.dn j e1
    have e2 : (done ++ [(row, true)]).getD j noRw = done.getD j noRw := by rw [getD_app1, if_pos e1]
    have e3 : nth [] (es ++ [[AV.os m 0 0 w, .v (.bool true)]]) j = nth [] es j := by rw [nth_app1, if_pos (by rw [h.el]; exact e1)]
    rw [e2, e3]
    exact ⟨m', q1, q2, by omega, q4, by omega, by rw [hk m' q5 q2 q3]; exact q6, q7⟩
  · have e1' : j = done.length := by omega
    subst e1'
    have e2 : (done ++ [(row, true)]).getD done.length noRw = (row, true) := by rw [getD_app1, if_neg (by omega), if_pos rfl]
    have e3 : nth [] (es ++ [[AV.os m 0 0 w, .v (.bool true)]]) done.length = [.os m 0 0 w, .v (.bool true)] := nth_last h.el.symm
    rw [e2, e3]
    exact ⟨m, rfl, by omega, by omega, hbm, by omega, gm, hr⟩

/-- The last row goes on. -/
theorem LayH.on {H H' : AHeap} {base w n m e : Nat} {es : List (List AV)} {done : List Rw} {cur c : List Ce} (h : LayH H base w n m e es done cur) (hnx : H.next ≤ H'.next) (gm : H'.get m = some (cblk 0 (padRow w c)))
    (hk : ∀ k, k < H.next → k ≠ m → H'.get k = H.get k) : LayH H' base w n m e es done c := by
  have hbm := h.bm; have hbn := h.bn; have hnn := h.nn; have hmn := h.mn; have hne := h.ne
  refine ⟨hbn, hbm, by omega, by omega, hne, by rw [hk n hnn hne]; exact h.gn, gm, h.el, fun j hj => ?_⟩
  obtain ⟨m', q1, q2, q3, q4, q5, q6, q7⟩ := h.dn j hj
  exact ⟨m', q1, q2, q3, q4, by omega, by rw [hk m' q5 q3]; exact q6, q7⟩
theorem LayH.lv {H : AHeap} {base w n m e : Nat} {es : List (List AV)} {done : List Rw} {cur : List Ce} (h : LayH H base w n m e es done cur) (hc : cur.length ≤ w) : RowsLv H base (es ++ [[.os m 0 0 w, .v (.bool false)]]) (done ++ [(padRow w cur, false)]) := by
  have sl : ∀ (k : Nat) (r : List Ce), k < H.next → H.get k = some (cblk 0 r) → r.length = w → SlH H 3 (.os k 0 0 w) (cesA r) := fun k r h1 h2 h3 => by
    subst h3
    refine .inr ⟨k, 0, 0, _, by rw [ces_len], h1, h2, rfl, rfl, rfl, by simp, ?_⟩
    rw [List.drop_zero]; exact List.take_of_length_le (Nat.le_refl _)
  refine ⟨by rw [List.length_append, List.length_append, h.el]; rfl, fun j hj => ?_⟩
  rw [List.length_append] at hj
  have hj' : j < done.length + 1 := hj
  by_cases e1 : j < done.length
  · obtain ⟨m', q1, q2, q3, q4, q5, q6, q7⟩ := h.dn j e1
    have e2 : (done ++ [(padRow w cur, false)]).getD j noRw = done.getD j noRw := by rw [getD_app1, if_pos e1]
    have e3 : nth [] (es ++ [[AV.os m 0 0 w, .v (.bool false)]]) j = nth [] es j := by rw [nth_app1, if_pos (by rw [h.el]; exact e1)]
    rw [e2, e3]
    exact ⟨_, q1, sl m' _ q5 q6 q7, fun k ⟨_, _, _, hk⟩ => by cases hk; exact q4⟩
  · have e1' : j = done.length := by omega
    subst e1'
    have e2 : (done ++ [(padRow w cur, false)]).getD done.length noRw = (padRow w cur, false) := by rw [getD_app1, if_neg (by omega), if_pos rfl]
    have e3 : nth [] (es ++ [[AV.os m 0 0 w, .v (.bool false)]]) done.length = [.os m 0 0 w, .v (.bool false)] := nth_last h.el.symm
    rw [e2, e3]
    exact ⟨_, rfl, sl m _ h.mn h.gm (padRow_len hc), fun k ⟨_, _, _, hk⟩ => by cases hk; exact h.bm⟩
theorem padRow_set' {w : Nat} {cur : List Ce} {c : Ce} (h : cur.length < w) : (padRow w cur).set cur.length ⟨c.r, c.w, c.a⟩ = padRow w (cur ++ [c]) := padRow_set rfl h
theorem padRow_set2 {w : Nat} {cur : List Ce} {c d : Ce} (h : cur.length + 1 < w) : ((padRow w cur).set cur.length ⟨c.r, c.w, c.a⟩).set (cur.length + 1) d = padRow w (cur ++ [c, d]) := by
  rw [padRow_set' (by omega), padRow_set (by simp) (by simp; omega)]
  simp
theorem app_row' : appInfo (ELo oc).P 22 = some (48, 32, 2) := by kernel_rfl
section
variable {ys : List (Nat × LRec)} {lo : Nat} {H : AHeap} {A : AV} {l : List Ce} {es : List (List AV)} {ls : List (List Ce)}
theorem Layout_run (hA : SlH H 3 A (cesA l)) (hl : l.length < 2 ^ 40) (w : Int) : CallRo (ELo oc) ys lo 37 [A, .v (.int .i64 w)] H (rwA (layL l w)) := by
  refine WC.pureR rfl fun lo' H' hh => ?_
  have hA' := hA.two (.inr ⟨[], .inr (by simp)⟩) hh
  have hlo := lo_two hh
  have hM := fun ys G (x : Ext H' G) => may_run (ys := ys) (lo := lo') (hA'.ext x) hl w
  by_cases hm : mayL l w
  · simp only [decide_eq_true hm] at hM
    have hm' := hm
    obtain ⟨w2, w3, hg⟩ := hm'
    have hB := fun ys G => rowBlank_own (ys := ys) (lo := lo') (H := G) w (by omega) w3
    have hlay : layL l w = lay w.toNat [] l := if_pos hm
    have hrw : rwA (layL l w) = .sl 2 (rowsA (lay w.toNat [] l)) := by rw [hlay, rwA, if_neg (lay_ne _ _ _)]
    have hall := lay_rows w.toNat (by omega) (by omega) l [] hg trivial (Nat.zero_le _)
    rw [hrw]
    refine zvin Tryz.func37 Tryz.ntmps37 ?_
    repeat' (first | refine zka ?_ | refine zkb ?_ | (apply RKp.op; ((try simp (disch := (first | omega | exact zX | exact zO | (simp (disch := omega) only [get_set, get_push, next_push, next_set, if_pos', if_neg', if_true, if_false, gn, gm]; done) | fail)) only [len_cellX lo' hA', ix_cellX lo' hA', ld_cellX lo' hA', fa_cellX lo' hA', lf_wX lo' hA', lf_aX lo' hA', lf_rX lo' hA', sl_hiX lo' hA', sl_loX lo' hA', sl_lohiX lo' hA', go_sem, Nat.reduceDiv, Nat.reduceMod, Nat.reduceAdd, Nat.reduceSub, Nat.reduceEqDiff, Nat.reduceLeDiff, Nat.reduceLT, Nat.reduceMul, reduceIte, Nat.reducePow, Int.reduceEq]); exact zL); rfl) | (apply RKp.callR; (apply hM <;> (exact zD)); rfl; intro tr htr) | (apply RKp.callN; (apply hB <;> (exact zD)); rfl; intro tr htr) | refine zkc ?_ | apply RKg.tt | apply RKg.ff | refine zkd ?_ | refine zke ?_ | refine zkf ?_ | (refine RKg.split (fun h => ?_) (fun h => ?_) <;> (try rw [h]) <;> (replace h := zB h) <;> (try (exfalso; first | exact h | omega))) | apply RK.nil | apply V.sq | apply V.bl | apply V.sc | apply V.skip | apply V.label | apply V.ret | apply V.exit | apply SeqQ.normal | apply SeqQ.ret | apply SeqQ.exit | apply BlockQ.normal | apply BlockQ.ret | apply BlockQ.here | refine zbt ?_ | apply LoopS.ret | apply LoopS.exit | apply LoopF.ret | apply LoopF.exit | apply V.regK | refine zva ?_ | refine zvb ?_ | refine zgc ?_ | refine zvd ?_ | refine zve ?_ | (refine zvf (fun h => ?_) (fun h => ?_) <;> (replace h := zB h) <;> (try (exfalso; first | exact h | omega))) | (refine zfc Tryz.results37 ?_; (try dsimp only)))
    apply V.lpS [19, 5, 6, 8, 9, 20, 21, 22, 23, 24, 25, 26, 27, 28, 29, 30, 31, 32, 33, 34, 35, 36, 37, 38, 39, 40, 41, 42, 43, 44, 45, 46, 47, 48, 49, 50, 51, 52, 53, 54, 55, 56, 57, 58, 59, 60, 61, 62, 63, 64, 65, 66, 67, 68, 69, 70, 71, 72, 73, 74, 75, 76, 77, 78, 79, 80, 81] (fun k xs H2 => ∃ (i : Nat) (g : _) (n m e L : Nat) (colI : Int) (es' : List (List AV)) (done : List Rw) (cur : List Ce), xs = .v (.int .i64 i) :: .os n e 0 L :: .v (.int .i64 colI) :: g ∧ L = es'.length + 1 ∧ colI = cur.length ∧ k = l.length - i ∧ i ≤ l.length ∧ Ext H' H2 ∧ LayH H2 H'.next w.toNat n m e es' done cur ∧ done ++ lay w.toNat cur (l.drop i) = lay w.toNat [] l ∧ cur.length ≤ w.toNat ∧ done.length ≤ i) l.length
    focus (intro xs; simp only [putMany, set2, Nat.reduceAdd, Nat.reduceDiv, Nat.reduceMod, nth_zero, nth_succ, List.set_cons_zero, List.set_cons_succ]; rfl)
    focus (first | rfl | simp only [readMany, nth_zero, nth_succ, Nat.reduceDiv, Nat.reduceMod])
    · refine ⟨0, _, H'.next + 1, H'.next, 0, 1, 0, [], [], [], rfl, rfl, rfl, rfl, Nat.zero_le _, by exact zX, ⟨by omega, by omega, by (first | omega | (simp only [next_push, next_set, next_empty]; done) | (simp only [next_push, next_set, next_empty]; omega)), by (first | omega | (simp only [next_push, next_set, next_empty]; done) | (simp only [next_push, next_set, next_empty]; omega)), by omega, by simp (disch := (first | omega | exact zX | fail)) only [get_set, get_push, next_push, next_set, if_pos', if_neg', if_true, if_false, reduceIte]; rfl, ?_, rfl, fun j hj => absurd hj (Nat.not_lt_zero _)⟩, rfl, Nat.zero_le _, Nat.zero_le _⟩
      have : padRow w.toNat [] = blanks w.toNat := rfl
      rw [this]; simp (disch := (first | omega | exact zX | fail)) only [get_set, get_push, next_push, next_set, if_pos', if_neg', if_true, if_false, reduceIte]
    · rintro k xs H2 ⟨i, g, n, m, e, L, colI, es', done, cur, rfl, hL, hcol, rfl, hi, hx, hY, hjn, hcl, hdl⟩
      have gn := hY.gn; have gm := hY.gm; have b1 := hY.bn; have b2 := hY.bm; have b3 := hY.nn; have b4 := hY.mn; have b5 := hY.ne; have b6 := hY.el
      have hn2 := hx.next
      have hpl := padRow_len hcl
      have hA2 := hA'.ext hx
      by_cases hlt : i < l.length
      · have hmem : l.getD i zeroC ∈ l := by rw [List.getD_eq_getElem?_getD, List.getElem?_eq_getElem hlt]; exact List.getElem_mem hlt
        have hcc := hg _ hmem
        have hcw := hcc.w
        have hcl' := cellsC_len' hcc
        have hdr : l.drop i = l.getD i zeroC :: l.drop (i + 1) := by
          rw [List.drop_eq_getElem_cons hlt, List.getD_eq_getElem?_getD, List.getElem?_eq_getElem hlt]; rfl
        rw [hdr] at hjn
        have hc1 : cellsC (l.getD i zeroC) = if (l.getD i zeroC).w = 2 then [l.getD i zeroC, ⟨0, 0, (l.getD i zeroC).a⟩] else [l.getD i zeroC] := rfl
        generalize hcv : l.getD i zeroC = c at *
        have ldc : ∀ G, Ext H2 G → primL lo' G (loadA (ELo oc) 52 (ixA A (cesA l) i)) = some (.agg [.v (.int .i32 c.r), .v (.int .i64 c.w), .v (.int .i64 c.a)], G, rdTr A) := fun G hG => by
          rw [ld_cellX lo' hA2 G hG i hlt, hcv]
        have ixc : ∀ G, Ext H2 G → primL lo' G (indexAddrA (ELo oc) 41 A (.v (.int .i64 (i : Int)))) = some (ixA A (cesA l) i, G, rdTr A) := fun G hG => ix_cellX lo' hA2 G hG .i64 i (by omega) (by omega)
        have lnc : ∀ G, Ext H2 G → primL lo' G (builtinA (ELo oc) .len #[41] 3 [A]) = some (.v (.int .i64 l.length), G, rdTr A) := fun G hG => len_cellX lo' hA2 G hG
        subst hL hcol
        have e1 : ((es'.length + 1 : Nat) : Int) - 1 = (es'.length : Int) := by omega
        have e0 : List.take (es'.length + 1) (es' ++ [[AV.os m 0 0 w.toNat, .v (.bool false)]]) = es' ++ [[AV.os m 0 0 w.toNat, .v (.bool false)]] := List.take_of_length_le (by simp)
        have e2 : (es' ++ [[AV.os m 0 0 w.toNat, .v (.bool false)]]).length = es'.length + 1 := by simp
        have e3 : nth [] (es' ++ [[AV.os m 0 0 w.toNat, .v (.bool false)]]) es'.length = [AV.os m 0 0 w.toNat, .v (.bool false)] := nth_last rfl
        by_cases hgt : w.toNat < cur.length + c.w.toNat
        · have hlu : lay w.toNat cur (c :: l.drop (i + 1)) = ((if cur.length < w.toNat then cur ++ [padC] else cur), true) :: lay w.toNat (cellsC c) (l.drop (i + 1)) := by
            conv => lhs; unfold lay
            rw [if_pos hgt]
          rw [hlu] at hjn
          have e4 : ((0 : Int) + 1).toNat = 1 := rfl
          have e11 : Int.toNat 0 = 0 := rfl
          have e5 : (es' ++ [[AV.os m 0 0 w.toNat, .v (.bool false)]]).set es'.length [AV.os m 0 0 w.toNat, .v (.bool true)] = es' ++ [[AV.os m 0 0 w.toNat, .v (.bool true)]] := set_last rfl
          have e6 : List.take (es'.length + 1 + 1) (es' ++ [[AV.os m 0 0 w.toNat, .v (.bool true)]] ++ [[AV.os (H2.next + 1) 0 0 w.toNat, .v (.bool false)]]) = es' ++ [[AV.os m 0 0 w.toNat, .v (.bool true)]] ++ [[AV.os (H2.next + 1) 0 0 w.toNat, .v (.bool false)]] := List.take_of_length_le (by simp)
          have e7 : (es' ++ [[AV.os m 0 0 w.toNat, .v (.bool true)]] ++ [[AV.os (H2.next + 1) 0 0 w.toNat, .v (.bool false)]]).length = es'.length + 1 + 1 := by simp
          have e8 : nth [] (es' ++ [[AV.os m 0 0 w.toNat, .v (.bool true)]] ++ [[AV.os (H2.next + 1) 0 0 w.toNat, .v (.bool false)]]) (es'.length + 1) = [AV.os (H2.next + 1) 0 0 w.toNat, .v (.bool false)] := nth_last (by simp)
          have e9 : (((es'.length + 1 + 1 : Nat) : Int) - 1).toNat = es'.length + 1 := by omega
          have e10 : (blanks w.toNat).length = w.toNat := blanks_len _
          have happ : ∀ (G : AHeap) (k : Nat), G.get n = some ⟨48, 2, e, es' ++ [[AV.os m 0 0 w.toNat, .v (.bool true)]], none⟩ → n < G.next → k = G.next → primL lo' (G.push ⟨48, 2, 0, [[AV.os (H2.next + 1) 0 0 w.toNat, .v (.bool false)]], none⟩) (appendA (ELo oc) 22 (.os n e 0 (es'.length + 1)) (.os k 0 0 1)) = some (.os n (e + 1) 0 (es'.length + 1 + 1), (G.push ⟨48, 2, 0, [[AV.os (H2.next + 1) 0 0 w.toNat, .v (.bool false)]], none⟩).set n ⟨48, 2, e + 1, es' ++ [[AV.os m 0 0 w.toNat, .v (.bool true)]] ++ [[AV.os (H2.next + 1) 0 0 w.toNat, .v (.bool false)]], none⟩, ⟨bitsOf [n, k], 2 ^ n, 0⟩) := fun G k h1 h2 h3 => by
            subst h3
            exact app_one_os (ELo oc) lo' app_row' h1 h2 (by simp) (by omega) (by unfold roomMax; omega) _
          repeat' (first | refine zka ?_ | refine zkb ?_ | (apply RKp.op; ((try simp (disch := (first | omega | exact zX | exact zO | (simp (disch := omega) only [get_set, get_push, next_push, next_set, if_pos', if_neg', if_true, if_false, gn, gm]; done) | fail)) only [ldc, ixc, lnc, gn, gm, ces_len, ces_set, nth_cesA, hz3, drop3, hpl, List.length_set, e0, e2, e3, Int.toNat_natCast, e1, e4, e5, e6, e7, e8, e9, e10, e11, happ, go_sem, Nat.reduceDiv, Nat.reduceMod, Nat.reduceAdd, Nat.reduceSub, Nat.reduceEqDiff, Nat.reduceLeDiff, Nat.reduceLT, Nat.reduceMul, reduceIte, Nat.reducePow, Int.reduceEq]); exact zL); rfl) | (apply RKp.call; (apply Pad_run <;> (exact zD)); rfl) | (apply RKp.callN; (apply hB <;> (exact zD)); rfl; intro tr htr) | refine zkc ?_ | apply RKg.tt | apply RKg.ff | refine zkd ?_ | refine zke ?_ | refine zkf ?_ | (refine RKg.split (fun h => ?_) (fun h => ?_) <;> (try rw [h]) <;> (replace h := zB h) <;> (try (exfalso; first | exact h | omega))) | apply RK.nil | apply V.sq | apply V.bl | apply V.sc | apply V.skip | apply V.label | apply V.ret | apply V.exit | apply SeqQ.normal | apply SeqQ.ret | apply SeqQ.exit | apply BlockQ.normal | apply BlockQ.ret | apply BlockQ.here | refine zbt ?_ | apply LoopS.ret | apply LoopS.exit | apply LoopF.ret | apply LoopF.exit | apply V.regK | refine zva ?_ | refine zvb ?_ | refine zgc ?_ | refine zvd ?_ | refine zve ?_ | (refine zvf (fun h => ?_) (fun h => ?_) <;> (replace h := zB h) <;> (try (exfalso; first | exact h | omega))) | (refine zfc Tryz.results37 ?_; (try dsimp only)))
          all_goals first
            | (exfalso; omega)
            | (have hrow : (if cur.length < w.toNat then cur ++ [padC] else cur) = padRow w.toNat (cur ++ [padC]) := by
                 rw [if_pos (by omega), padRow_full (by rw [List.length_append]; show cur.length + 1 = w.toNat; omega)]
               rw [hrow] at hjn
               refine LoopS.again (l.length - (i + 1)) (by rfl) (by omega) ⟨i + 1, _, n, H2.next + 1, e + 1, es'.length + 1 + 1, _, es' ++ [[AV.os m 0 0 w.toNat, .v (.bool true)]], done ++ [(padRow w.toNat (cur ++ [padC]), true)], cellsC c, rfl, by simp, by omega, rfl, by omega, by exact zX, hY.wrap (by omega) (by (first | omega | (simp only [next_push, next_set, next_empty]; done) | (simp only [next_push, next_set, next_empty]; omega))) (by (first | omega | (simp only [next_push, next_set, next_empty]; done) | (simp only [next_push, next_set, next_empty]; omega))) ?_ ?_ ?_ (padRow_len (by rw [List.length_append]; show cur.length + 1 ≤ w.toNat; omega)) ?_, by rw [List.append_assoc]; exact hjn, by omega, by rw [List.length_append]; show done.length + 1 ≤ i + 1; omega⟩
               · simp (disch := (first | omega | exact zX | fail)) only [get_set, get_push, next_push, next_set, if_pos', if_neg', if_true, if_false, reduceIte]
               · rw [← padRow_set (c := padC) rfl (by omega)]; simp (disch := (first | omega | exact zX | fail)) only [get_set, get_push, next_push, next_set, if_pos', if_neg', if_true, if_false, reduceIte]
               · rw [hc1, if_pos (by assumption), show ([c, ⟨0, 0, c.a⟩] : List Ce) = [] ++ [c, ⟨0, 0, c.a⟩] from rfl, ← padRow_set2 (by simp; omega)]
                 have hb0 : padRow w.toNat [] = blanks w.toNat := rfl
                 rw [hb0, List.length_nil]
                 simp (disch := (first | omega | exact zX | fail)) only [get_set, get_push, next_push, next_set, if_pos', if_neg', if_true, if_false, reduceIte]
               · intro k hk h1 h2
                 simp (disch := omega) only [get_set, get_push, next_push, next_set, if_pos', if_neg'])
            | (have hrow : (if cur.length < w.toNat then cur ++ [padC] else cur) = padRow w.toNat (cur ++ [padC]) := by
                 rw [if_pos (by omega), padRow_full (by rw [List.length_append]; show cur.length + 1 = w.toNat; omega)]
               rw [hrow] at hjn
               refine LoopS.again (l.length - (i + 1)) (by rfl) (by omega) ⟨i + 1, _, n, H2.next + 1, e + 1, es'.length + 1 + 1, _, es' ++ [[AV.os m 0 0 w.toNat, .v (.bool true)]], done ++ [(padRow w.toNat (cur ++ [padC]), true)], cellsC c, rfl, by simp, by omega, rfl, by omega, by exact zX, hY.wrap (by omega) (by (first | omega | (simp only [next_push, next_set, next_empty]; done) | (simp only [next_push, next_set, next_empty]; omega))) (by (first | omega | (simp only [next_push, next_set, next_empty]; done) | (simp only [next_push, next_set, next_empty]; omega))) ?_ ?_ ?_ (padRow_len (by rw [List.length_append]; show cur.length + 1 ≤ w.toNat; omega)) ?_, by rw [List.append_assoc]; exact hjn, by omega, by rw [List.length_append]; show done.length + 1 ≤ i + 1; omega⟩
               · simp (disch := (first | omega | exact zX | fail)) only [get_set, get_push, next_push, next_set, if_pos', if_neg', if_true, if_false, reduceIte]
               · rw [← padRow_set (c := padC) rfl (by omega)]; simp (disch := (first | omega | exact zX | fail)) only [get_set, get_push, next_push, next_set, if_pos', if_neg', if_true, if_false, reduceIte]
               · rw [hc1, if_neg (by assumption), show ([c] : List Ce) = [] ++ [c] from rfl, ← padRow_set' (by simp; omega)]
                 have hb0 : padRow w.toNat [] = blanks w.toNat := rfl
                 rw [hb0, List.length_nil]
                 simp (disch := (first | omega | exact zX | fail)) only [get_set, get_push, next_push, next_set, if_pos', if_neg', if_true, if_false, reduceIte]
               · intro k hk h1 h2
                 simp (disch := omega) only [get_set, get_push, next_push, next_set, if_pos', if_neg'])
            | (have hrow : (if cur.length < w.toNat then cur ++ [padC] else cur) = padRow w.toNat cur := by
                 rw [if_neg (by omega), padRow_full (by omega)]
               rw [hrow] at hjn
               refine LoopS.again (l.length - (i + 1)) (by rfl) (by omega) ⟨i + 1, _, n, H2.next + 1, e + 1, es'.length + 1 + 1, _, es' ++ [[AV.os m 0 0 w.toNat, .v (.bool true)]], done ++ [(padRow w.toNat cur, true)], cellsC c, rfl, by simp, by omega, rfl, by omega, by exact zX, hY.wrap (by omega) (by (first | omega | (simp only [next_push, next_set, next_empty]; done) | (simp only [next_push, next_set, next_empty]; omega))) (by (first | omega | (simp only [next_push, next_set, next_empty]; done) | (simp only [next_push, next_set, next_empty]; omega))) ?_ ?_ ?_ (padRow_len (by skip; omega)) ?_, by rw [List.append_assoc]; exact hjn, by omega, by rw [List.length_append]; show done.length + 1 ≤ i + 1; omega⟩
               · simp (disch := (first | omega | exact zX | fail)) only [get_set, get_push, next_push, next_set, if_pos', if_neg', if_true, if_false, reduceIte]
               · simp (disch := (first | omega | exact zX | fail)) only [get_set, get_push, next_push, next_set, if_pos', if_neg', if_true, if_false, reduceIte]; exact gm
               · rw [hc1, if_pos (by assumption), show ([c, ⟨0, 0, c.a⟩] : List Ce) = [] ++ [c, ⟨0, 0, c.a⟩] from rfl, ← padRow_set2 (by simp; omega)]
                 have hb0 : padRow w.toNat [] = blanks w.toNat := rfl
                 rw [hb0, List.length_nil]
                 simp (disch := (first | omega | exact zX | fail)) only [get_set, get_push, next_push, next_set, if_pos', if_neg', if_true, if_false, reduceIte]
               · intro k hk h1 h2
                 simp (disch := omega) only [get_set, get_push, next_push, next_set, if_pos', if_neg'])
            | (have hrow : (if cur.length < w.toNat then cur ++ [padC] else cur) = padRow w.toNat cur := by
                 rw [if_neg (by omega), padRow_full (by omega)]
               rw [hrow] at hjn
               refine LoopS.again (l.length - (i + 1)) (by rfl) (by omega) ⟨i + 1, _, n, H2.next + 1, e + 1, es'.length + 1 + 1, _, es' ++ [[AV.os m 0 0 w.toNat, .v (.bool true)]], done ++ [(padRow w.toNat cur, true)], cellsC c, rfl, by simp, by omega, rfl, by omega, by exact zX, hY.wrap (by omega) (by (first | omega | (simp only [next_push, next_set, next_empty]; done) | (simp only [next_push, next_set, next_empty]; omega))) (by (first | omega | (simp only [next_push, next_set, next_empty]; done) | (simp only [next_push, next_set, next_empty]; omega))) ?_ ?_ ?_ (padRow_len (by skip; omega)) ?_, by rw [List.append_assoc]; exact hjn, by omega, by rw [List.length_append]; show done.length + 1 ≤ i + 1; omega⟩
               · simp (disch := (first | omega | exact zX | fail)) only [get_set, get_push, next_push, next_set, if_pos', if_neg', if_true, if_false, reduceIte]
               · simp (disch := (first | omega | exact zX | fail)) only [get_set, get_push, next_push, next_set, if_pos', if_neg', if_true, if_false, reduceIte]; exact gm
               · rw [hc1, if_neg (by assumption), show ([c] : List Ce) = [] ++ [c] from rfl, ← padRow_set' (by simp; omega)]
                 have hb0 : padRow w.toNat [] = blanks w.toNat := rfl
                 rw [hb0, List.length_nil]
                 simp (disch := (first | omega | exact zX | fail)) only [get_set, get_push, next_push, next_set, if_pos', if_neg', if_true, if_false, reduceIte]
               · intro k hk h1 h2
                 simp (disch := omega) only [get_set, get_push, next_push, next_set, if_pos', if_neg'])
            | trace_state
        · have happ : True := trivial
          have e4 : ((cur.length : Int) + 1).toNat = cur.length + 1 := by omega
          have hlu : lay w.toNat cur (c :: l.drop (i + 1)) = lay w.toNat (cur ++ cellsC c) (l.drop (i + 1)) := by
            conv => lhs; unfold lay
            rw [if_neg hgt]
          rw [hlu] at hjn
          repeat' (first | refine zka ?_ | refine zkb ?_ | (apply RKp.op; ((try simp (disch := (first | omega | exact zX | exact zO | (simp (disch := omega) only [get_set, get_push, next_push, next_set, if_pos', if_neg', if_true, if_false, gn, gm]; done) | fail)) only [ldc, ixc, lnc, gn, gm, ces_len, ces_set, nth_cesA, hz3, drop3, hpl, List.length_set, e0, e2, e3, Int.toNat_natCast, e1, e4, go_sem, Nat.reduceDiv, Nat.reduceMod, Nat.reduceAdd, Nat.reduceSub, Nat.reduceEqDiff, Nat.reduceLeDiff, Nat.reduceLT, Nat.reduceMul, reduceIte, Nat.reducePow, Int.reduceEq]); exact zL); rfl) | (apply RKp.call; (apply Pad_run <;> (exact zD)); rfl) | (apply RKp.callN; (apply hB <;> (exact zD)); rfl; intro tr htr) | refine zkc ?_ | apply RKg.tt | apply RKg.ff | refine zkd ?_ | refine zke ?_ | refine zkf ?_ | (refine RKg.split (fun h => ?_) (fun h => ?_) <;> (try rw [h]) <;> (replace h := zB h) <;> (try (exfalso; first | exact h | omega))) | apply RK.nil | apply V.sq | apply V.bl | apply V.sc | apply V.skip | apply V.label | apply V.ret | apply V.exit | apply SeqQ.normal | apply SeqQ.ret | apply SeqQ.exit | apply BlockQ.normal | apply BlockQ.ret | apply BlockQ.here | refine zbt ?_ | apply LoopS.ret | apply LoopS.exit | apply LoopF.ret | apply LoopF.exit | apply V.regK | refine zva ?_ | refine zvb ?_ | refine zgc ?_ | refine zvd ?_ | refine zve ?_ | (refine zvf (fun h => ?_) (fun h => ?_) <;> (replace h := zB h) <;> (try (exfalso; first | exact h | omega))) | (refine zfc Tryz.results37 ?_; (try dsimp only)))
          all_goals first
            | (exfalso; omega)
            | (refine LoopS.again (l.length - (i + 1)) (by rfl) (by omega) ⟨i + 1, _, n, m, e, es'.length + 1, _, es', done, cur ++ cellsC c, rfl, rfl, by rw [List.length_append]; omega, rfl, by omega, by exact zX, hY.on (by (first | omega | (simp only [next_push, next_set, next_empty]; done) | (simp only [next_push, next_set, next_empty]; omega))) ?_ ?_, hjn, by rw [List.length_append]; omega, by omega⟩
               · rw [hc1, if_pos h, ← padRow_set2 (by omega)]
                 simp (disch := (first | omega | exact zX | fail)) only [get_set, get_push, next_push, next_set, if_pos', if_neg', if_true, if_false, reduceIte]
               · intro k hk hkm
                 simp (disch := omega) only [get_set, get_push, next_push, next_set, if_pos', if_neg'])
            | (refine LoopS.again (l.length - (i + 1)) (by rfl) (by omega) ⟨i + 1, _, n, m, e, es'.length + 1, _, es', done, cur ++ cellsC c, rfl, rfl, by rw [List.length_append]; omega, rfl, by omega, by exact zX, hY.on (by (first | omega | (simp only [next_push, next_set, next_empty]; done) | (simp only [next_push, next_set, next_empty]; omega))) ?_ ?_, hjn, by rw [List.length_append]; omega, by omega⟩
               · rw [hc1, if_neg h, ← padRow_set' (by omega)]
                 simp (disch := (first | omega | exact zX | fail)) only [get_set, get_push, next_push, next_set, if_pos', if_neg', if_true, if_false, reduceIte]
               · intro k hk hkm
                 simp (disch := omega) only [get_set, get_push, next_push, next_set, if_pos', if_neg'])
            | trace_state
      · have e0 : i = l.length := by omega
        subst e0
        rw [List.drop_length] at hjn
        have hl0 : lay w.toNat cur [] = [(padRow w.toNat cur, false)] := rfl
        rw [hl0] at hjn
        repeat' (first | refine zka ?_ | refine zkb ?_ | (apply RKp.op; ((try simp (disch := (first | omega | exact zX | exact zO | (simp (disch := omega) only [get_set, get_push, next_push, next_set, if_pos', if_neg', if_true, if_false, gn, gm]; done) | fail)) only [gn, go_sem, Nat.reduceDiv, Nat.reduceMod, Nat.reduceAdd, Nat.reduceSub, Nat.reduceEqDiff, Nat.reduceLeDiff, Nat.reduceLT, Nat.reduceMul, reduceIte, Nat.reducePow, Int.reduceEq]); exact zL); rfl) | refine zkc ?_ | apply RKg.tt | apply RKg.ff | refine zkd ?_ | refine zke ?_ | refine zkf ?_ | (refine RKg.split (fun h => ?_) (fun h => ?_) <;> (try rw [h]) <;> (replace h := zB h) <;> (try (exfalso; first | exact h | omega))) | apply RK.nil | apply V.sq | apply V.bl | apply V.sc | apply V.skip | apply V.label | apply V.ret | apply V.exit | apply SeqQ.normal | apply SeqQ.ret | apply SeqQ.exit | apply BlockQ.normal | apply BlockQ.ret | apply BlockQ.here | refine zbt ?_ | apply LoopS.ret | apply LoopS.exit | apply LoopF.ret | apply LoopF.exit | apply V.regK | refine zva ?_ | refine zvb ?_ | refine zgc ?_ | refine zvd ?_ | refine zve ?_ | (refine zvf (fun h => ?_) (fun h => ?_) <;> (replace h := zB h) <;> (try (exfalso; first | exact h | omega))) | (refine zfc Tryz.results37 ?_; (try dsimp only)))
        subst hL
        have := frz_rowsLv (lo := lo') (by omega) gn (by rw [hlo]; exact hY.lv hcl) (fun r hr z => by
          rw [hjn] at hr
          have := (hall r hr).1
          rw [z] at this; simp at this; omega) (len := es'.length + 1) (by rw [List.length_append, b6]; rfl)
        rw [hjn] at this
        exact this
  · simp only [decide_eq_false hm] at hM
    have hrw : rwA (layL l w) = nilA := by rw [layL, if_neg hm]; rfl
    rw [hrw]
    refine zvin Tryz.func37 Tryz.ntmps37 ?_
    repeat' (first | refine zka ?_ | refine zkb ?_ | (apply RKp.op; ((try simp (disch := (first | omega | exact zX | exact zO | (simp (disch := omega) only [get_set, get_push, next_push, next_set, if_pos', if_neg', if_true, if_false, gn, gm]; done) | fail)) only [len_cellX lo' hA', ix_cellX lo' hA', ld_cellX lo' hA', fa_cellX lo' hA', lf_wX lo' hA', lf_aX lo' hA', lf_rX lo' hA', sl_hiX lo' hA', sl_loX lo' hA', sl_lohiX lo' hA', go_sem, Nat.reduceDiv, Nat.reduceMod, Nat.reduceAdd, Nat.reduceSub, Nat.reduceEqDiff, Nat.reduceLeDiff, Nat.reduceLT, Nat.reduceMul, reduceIte, Nat.reducePow, Int.reduceEq]); exact zL); rfl) | (apply RKp.callR; (apply hM <;> (exact zD)); rfl; intro tr htr) | refine zkc ?_ | apply RKg.tt | apply RKg.ff | refine zkd ?_ | refine zke ?_ | refine zkf ?_ | (refine RKg.split (fun h => ?_) (fun h => ?_) <;> (try rw [h]) <;> (replace h := zB h) <;> (try (exfalso; first | exact h | omega))) | apply RK.nil | apply V.sq | apply V.bl | apply V.sc | apply V.skip | apply V.label | apply V.ret | apply V.exit | apply SeqQ.normal | apply SeqQ.ret | apply SeqQ.exit | apply BlockQ.normal | apply BlockQ.ret | apply BlockQ.here | refine zbt ?_ | apply LoopS.ret | apply LoopS.exit | apply LoopF.ret | apply LoopF.exit | apply V.regK | refine zva ?_ | refine zvb ?_ | refine zgc ?_ | refine zvd ?_ | refine zve ?_ | (refine zvf (fun h => ?_) (fun h => ?_) <;> (replace h := zB h) <;> (try (exfalso; first | exact h | omega))) | (refine zfc Tryz.results37 ?_; (try dsimp only)))
    rfl
end
end Go.Am

namespace Go.Am
variable {oc : Orc} [OrcI oc]
open Go.Proofs
set_option maxRecDepth 8000
set_option maxHeartbeats 8000000
theorem layL_le (l : List Ce) (w : Int) : (layL l w).length ≤ l.length + 1 := by
  unfold layL
  split
  · have : ∀ (l cur : List Ce), (lay w.toNat cur l).length ≤ l.length + 1 := by
      intro l
      induction l with
      | nil => intro cur; exact Nat.le_refl 1
      | cons c l ih =>
        intro cur
        unfold lay
        split
        · rw [List.length_cons, List.length_cons]; have := ih (cellsC c); omega
        · rw [List.length_cons]; have := ih (cur ++ cellsC c); omega
    exact this l []
  · exact Nat.zero_le _
theorem allL_take {ls : List (List Ce)} {w : Int} {i : Nat} (hi : i < ls.length) : allL (ls.take (i + 1)) w = allL (ls.take i) w ++ layL (ls.getD i []) w := by
  rw [List.take_add_one, List.getElem?_eq_getElem hi, allL_app, List.getD_eq_getElem?_getD, List.getElem?_eq_getElem hi]
  show _ ++ (layL _ w ++ allL [] w) = _
  rw [show allL [] w = [] from rfl, List.append_nil]; rfl
theorem allL_le (ls : List (List Ce)) (w : Int) (i : Nat) : (allL (ls.take i) w).length ≤ (allL ls w).length := by
  have e : allL ls w = allL (ls.take i) w ++ allL (ls.drop i) w := by rw [← allL_app, List.take_append_drop]
  rw [e, List.length_append]; omega
section
variable {ys : List (Nat × LRec)} {lo : Nat} {H : AHeap} {A : AV} {es : List (List AV)} {ls : List (List Ce)} {rows : List Rw}
theorem All_run (hA : SlH H 1 A es) (hr : LsP es ls) (w : Int) (hb : (allL ls w).length < 2 ^ 40) (hbl : ls.length < 2 ^ 40) : CallRo (ELo oc) ys lo 25 [A, .v (.int .i64 w)] H (rwA (allL ls w)) := by
  refine WC.pureR rfl fun lo' H' hh => ?_
  have hA' := hA.two (.inr ⟨[], .inr (by simp)⟩) hh
  have hlo := lo_two hh
  refine zvin Tryz.func25 Tryz.ntmps25 ?_
  repeat' (first | refine zka ?_ | refine zkb ?_ | (apply RKp.op; ((try simp (disch := (first | omega | exact zX | exact zO | fail)) only [lenL lo' hA' hr, go_sem, Nat.reduceDiv, Nat.reduceMod, Nat.reduceAdd, Nat.reduceSub, Nat.reduceEqDiff, Nat.reduceLeDiff, Nat.reduceLT, Nat.reduceMul, reduceIte, Nat.reducePow, Int.reduceEq]); exact zL); rfl) | refine zkc ?_ | apply RKg.tt | apply RKg.ff | refine zkd ?_ | refine zke ?_ | refine zkf ?_ | (refine RKg.split (fun h => ?_) (fun h => ?_) <;> (try rw [h]) <;> (replace h := zB h) <;> (try (exfalso; first | exact h | omega))) | apply RK.nil | apply V.sq | apply V.bl | apply V.sc | apply V.skip | apply V.label | apply V.ret | apply V.exit | apply SeqQ.normal | apply SeqQ.ret | apply SeqQ.exit | apply BlockQ.normal | apply BlockQ.ret | apply BlockQ.here | refine zbt ?_ | apply LoopS.ret | apply LoopS.exit | apply LoopF.ret | apply LoopF.exit | apply V.regK | refine zvd ?_ | refine zve ?_ | (refine zvf (fun h => ?_) (fun h => ?_) <;> (replace h := zB h) <;> (try (exfalso; first | exact h | omega))) | (refine zfc Tryz.results25 ?_; (try dsimp only)))
  apply V.lpS [10, 5, 7, 11, 12, 13, 14, 15, 16, 17, 18, 19] (fun k xs H2 => ∃ (i : Nat) (x : AV) (g : _), xs = .v (.int .i64 i) :: x :: g ∧ k = ls.length - i ∧ i ≤ ls.length ∧ Ext H' H2 ∧ OwS H2 H'.next 48 2 x (rowsA (allL (ls.take i) w)) ∧ (allL (ls.take i) w = [] → x = nilA)) ls.length
  focus (intro xs; simp only [putMany, set2, Nat.reduceAdd, Nat.reduceDiv, Nat.reduceMod, nth_zero, nth_succ, List.set_cons_zero, List.set_cons_succ]; rfl)
  focus (first | rfl | simp only [readMany, nth_zero, nth_succ, Nat.reduceDiv, Nat.reduceMod])
  · exact ⟨0, _, _, rfl, rfl, Nat.zero_le _, Ext.refl _, OwS.nil _ _ _ _, fun _ => rfl⟩
  · rintro k xs H2 ⟨i, x, g, rfl, rfl, hi, hx, ho, h0⟩
    have hn2 := hx.next
    have hA2 := hA'.ext hx
    by_cases hlt : i < ls.length
    · have hl1 := allL_le ls w (i + 1)
      have htk := allL_take (w := w) hlt
      rw [htk, List.length_append] at hl1
      have hLay := fun ys G => Layout_run (ys := ys) (lo := lo') (H := G) (.inl (hr.sl i hlt)) (hr.lt i hlt) w
      by_cases hz : layL (ls.getD i []) w = [] ∧ x = nilA
      · obtain ⟨z1, rfl⟩ := hz
        rw [z1, List.append_nil] at htk
        have hap0 : ∀ G, primL lo' G (appendA (ELo oc) 22 (.v (.slice none 0 0)) (.v (.slice none 0 0))) = some (.v (.slice none 0 0), G, rdTr (.v (.slice none 0 0))) := fun G => append_new0 (ELo oc) lo' (.inr rfl) app_row' (.inl (.inr ⟨rfl, .inr rfl⟩))
        rw [z1] at hLay
        have hz2 : rwA [] = .v (.slice none 0 0) := rfl
        rw [hz2] at hLay
        unfold nilA at *
        repeat' (first | refine zka ?_ | refine zkb ?_ | (apply RKp.op; ((try simp (disch := (first | omega | exact zX | exact zO | fail)) only [hap0, lenL lo' hA2 hr, ixL lo' hA2 hr, ldL lo' hA2 hr, Int.toNat_natCast, go_sem, Nat.reduceDiv, Nat.reduceMod, Nat.reduceAdd, Nat.reduceSub, Nat.reduceEqDiff, Nat.reduceLeDiff, Nat.reduceLT, Nat.reduceMul, reduceIte, Nat.reducePow, Int.reduceEq]); exact zL); rfl) | (apply RKp.callR; (apply hLay <;> (exact zD)); rfl; intro tr htr) | refine zkc ?_ | apply RKg.tt | apply RKg.ff | refine zkd ?_ | refine zke ?_ | refine zkf ?_ | (refine RKg.split (fun h => ?_) (fun h => ?_) <;> (try rw [h]) <;> (replace h := zB h) <;> (try (exfalso; first | exact h | omega))) | apply RK.nil | apply V.sq | apply V.bl | apply V.sc | apply V.skip | apply V.label | apply V.ret | apply V.exit | apply SeqQ.normal | apply SeqQ.ret | apply SeqQ.exit | apply BlockQ.normal | apply BlockQ.ret | apply BlockQ.here | refine zbt ?_ | apply LoopS.ret | apply LoopS.exit | apply LoopF.ret | apply LoopF.exit | apply V.regK | refine zvd ?_ | refine zve ?_ | (refine zvf (fun h => ?_) (fun h => ?_) <;> (replace h := zB h) <;> (try (exfalso; first | exact h | omega))) | (refine zfc Tryz.results25 ?_; (try dsimp only)))
        exact LoopS.again (ls.length - (i + 1)) (by rfl) (by omega) ⟨i + 1, _, _, rfl, rfl, by omega, hx, by rw [htk]; exact ho, fun _ => rfl⟩
      · obtain ⟨x', H3, tr3, happ, ho', hnx, hfr, hjs, hnm⟩ := ho.addN (ELo oc) lo' app_row' (.inl (rwA_Sl (layL (ls.getD i []) w))) (fun k _ hk => (rwA_Sl _).nmO hk) (by omega) (by omega) (by rw [rowsA_len, rowsA_len]; unfold roomMax; omega)
        have hx3 : Ext H' H3 := ⟨by omega, fun k hk => by rw [hfr k (by omega) (fun z => by have := ho.nm z; omega), hx.get k hk]⟩
        rw [← rowsA_app, ← htk] at ho'
        repeat' (first | refine zka ?_ | refine zkb ?_ | (apply RKp.op; ((try simp (disch := (first | omega | exact zX | exact zO | fail)) only [happ, lenL lo' hA2 hr, ixL lo' hA2 hr, ldL lo' hA2 hr, Int.toNat_natCast, go_sem, Nat.reduceDiv, Nat.reduceMod, Nat.reduceAdd, Nat.reduceSub, Nat.reduceEqDiff, Nat.reduceLeDiff, Nat.reduceLT, Nat.reduceMul, reduceIte, Nat.reducePow, Int.reduceEq]); exact zL); rfl) | (apply RKp.callR; (apply hLay <;> (exact zD)); rfl; intro tr htr) | refine zkc ?_ | apply RKg.tt | apply RKg.ff | refine zkd ?_ | refine zke ?_ | refine zkf ?_ | (refine RKg.split (fun h => ?_) (fun h => ?_) <;> (try rw [h]) <;> (replace h := zB h) <;> (try (exfalso; first | exact h | omega))) | apply RK.nil | apply V.sq | apply V.bl | apply V.sc | apply V.skip | apply V.label | apply V.ret | apply V.exit | apply SeqQ.normal | apply SeqQ.ret | apply SeqQ.exit | apply BlockQ.normal | apply BlockQ.ret | apply BlockQ.here | refine zbt ?_ | apply LoopS.ret | apply LoopS.exit | apply LoopF.ret | apply LoopF.exit | apply V.regK | refine zvd ?_ | refine zve ?_ | (refine zvf (fun h => ?_) (fun h => ?_) <;> (replace h := zB h) <;> (try (exfalso; first | exact h | omega))) | (refine zfc Tryz.results25 ?_; (try dsimp only)))
        refine LoopS.again (ls.length - (i + 1)) (by rfl) (by omega) ⟨i + 1, x', _, rfl, rfl, by omega, hx3, ho', fun z => ?_⟩
        rw [htk, List.append_eq_nil_iff] at z
        exact absurd ⟨z.2, h0 z.1⟩ hz
    · have e : i = ls.length := by omega
      subst e
      rw [List.take_length] at ho h0
      repeat' (first | refine zka ?_ | refine zkb ?_ | (apply RKp.op; ((try simp (disch := (first | omega | exact zX | exact zO | fail)) only [lenL lo' hA2 hr, go_sem, Nat.reduceDiv, Nat.reduceMod, Nat.reduceAdd, Nat.reduceSub, Nat.reduceEqDiff, Nat.reduceLeDiff, Nat.reduceLT, Nat.reduceMul, reduceIte, Nat.reducePow, Int.reduceEq]); exact zL); rfl) | refine zkc ?_ | apply RKg.tt | apply RKg.ff | refine zkd ?_ | refine zke ?_ | refine zkf ?_ | (refine RKg.split (fun h => ?_) (fun h => ?_) <;> (try rw [h]) <;> (replace h := zB h) <;> (try (exfalso; first | exact h | omega))) | apply RK.nil | apply V.sq | apply V.bl | apply V.sc | apply V.skip | apply V.label | apply V.ret | apply V.exit | apply SeqQ.normal | apply SeqQ.ret | apply SeqQ.exit | apply BlockQ.normal | apply BlockQ.ret | apply BlockQ.here | refine zbt ?_ | apply LoopS.ret | apply LoopS.exit | apply LoopF.ret | apply LoopF.exit | apply V.regK | refine zvd ?_ | refine zve ?_ | (refine zvf (fun h => ?_) (fun h => ?_) <;> (replace h := zB h) <;> (try (exfalso; first | exact h | omega))) | (refine zfc Tryz.results25 ?_; (try dsimp only)))
      exact own_rwA ho h0 (by omega)
end
end Go.Am
