
/- Lines laid out. -/
import Derived.Test.YtmcimfmibpfnhaaGreatRLinC
import Derived.Test.YtmcimfmibpfnhaaGreatRRowZ
import Derived.Test.YtmcimfmibpfnhaaGreatRRowK
set_option linter.all false
set_option linter.deprecated false
namespace Go.Am
variable {oc : Orc} [OrcI oc]
open Go.Proofs
set_option maxRecDepth 8000
set_option maxHeartbeats 4000000

/-- Rows, frozen; nil if there are none. -/
def rwA (l : List Rw) : AV := if l = [] then nilA else .sl 2 (rowsA l)
theorem rwA_Sl (l : List Rw) : Sl 2 (rwA l) (rowsA l) := by
  unfold rwA
  split
  · rename_i h; subst h; exact .inr ⟨rfl, .inr rfl⟩
  · exact .inl rfl
theorem RsP.rowsA {l : List Rw} (h : ∀ r ∈ l, r.1.length < 2 ^ 20) (h32 : ∀ r ∈ l, R32 r.1) : RsP (rowsA l) l := by
  have hm : ∀ j, j < l.length → l.getD j noRw ∈ l := fun j hj => by
    rw [List.getD_eq_getElem?_getD, List.getElem?_eq_getElem hj]; exact List.getElem_mem hj
  have hb : ∀ j, j < l.length → bOf (Go.Am.rowsA l) j = .sl 3 (cesA (l.getD j noRw).1) := fun j hj => by
    unfold bOf; rw [nth_rowsA l j hj]; rfl
  refine ⟨rowsA_len l, fun j hj => by rw [hb j hj]; exact nth_rowsA l j hj, fun j hj => by rw [hb j hj]; exact .inl rfl, fun j hj => h _ (hm j hj), fun j hj => h32 _ (hm j hj)⟩
/-! A row under way. -/
def padRow (w : Nat) (cur : List Ce) : List Ce := cur ++ blanks (w - cur.length)
theorem padRow_len {w : Nat} {cur : List Ce} (h : cur.length ≤ w) : (padRow w cur).length = w := by
  unfold padRow; rw [List.length_append, blanks_len]; omega
theorem padRow_full {w : Nat} {cur : List Ce} (h : cur.length = w) : padRow w cur = cur := by
  unfold padRow; rw [h, Nat.sub_self]; exact List.append_nil cur
theorem padRow_set {w k : Nat} {cur : List Ce} {c : Ce} (hk : k = cur.length) (h : cur.length < w) : (padRow w cur).set k c = padRow w (cur ++ [c]) := by
  subst hk
  unfold padRow
  obtain ⟨j, hj⟩ : ∃ j, w - cur.length = j + 1 := ⟨w - cur.length - 1, by omega⟩
  have e : w - (cur ++ [c]).length = j := by rw [List.length_append]; show w - (cur.length + 1) = j; omega
  rw [hj, e, List.set_append_right _ _ (Nat.le_refl _), Nat.sub_self, List.append_assoc]
  rfl
theorem nth_last {α : Type} {es : List (List α)} {x : List α} {k : Nat} (h : k = es.length) : nth [] (es ++ [x]) k = x := by
  subst h
  rw [nth_getD, List.getD_eq_getElem?_getD, List.getElem?_append_right (Nat.le_refl _), Nat.sub_self]; rfl
theorem set_last {α : Type} {es : List α} {x y : α} {k : Nat} (h : k = es.length) : (es ++ [x]).set k y = es ++ [y] := by
  subst h
  rw [List.set_append_right _ _ (Nat.le_refl _), Nat.sub_self]; rfl

/-- Rows in a block, their cells by names from lo on, or frozen. -/
def RowsLv (H : AHeap) (lo : Nat) (es : List (List AV)) (rows : List Rw) : Prop :=
  es.length = rows.length ∧ ∀ j, j < rows.length → ∃ A, nth [] es j = [A, .v (.bool (rows.getD j noRw).2)] ∧ SlH H 3 A (cesA (rows.getD j noRw).1) ∧ ∀ k, nameOf A k → lo ≤ k
theorem frz_rowsLv {H : AHeap} {lo n e len : Nat} {es : List (List AV)} {rows : List Rw} (hl : lo ≤ n) (hg : H.get n = some ⟨48, 2, e, es, none⟩) (h : RowsLv H lo es rows) (hne : ∀ r ∈ rows, r.1 ≠ []) (hlen : len = rows.length) : frzR H lo (.os n e 0 len) = .sl 2 (rowsA rows) := by
  obtain ⟨h1, h2⟩ := h
  have hb : badN lo [] n = false := by
    cases hc : badN lo [] n with
    | false => rfl
    | true =>
      simp only [badN, List.any_nil, Bool.or_false, Nat.blt_eq] at hc
      omega
  have key : es.map (fun c => c.map (frz H (badN lo []) 11)) = rowsA rows := by
    apply List.ext_getElem
    · rw [List.length_map, rowsA_len]; exact h1
    intro j k1 k2
    rw [List.length_map] at k1
    have hj : j < rows.length := by omega
    obtain ⟨A, e1, e2, e3⟩ := h2 j hj
    rw [List.getElem_map]
    have e4 : es[j] = [A, .v (.bool (rows.getD j noRw).2)] := by
      rw [← e1, nth_getD, List.getD_eq_getElem?_getD, List.getElem?_eq_getElem k1]; rfl
    have e5 : (rowsA rows)[j] = [.sl 3 (cesA (rows.getD j noRw).1), .v (.bool (rows.getD j noRw).2)] := by
      rw [← nth_rowsA rows j hj, nth_getD, List.getD_eq_getElem?_getD, List.getElem?_eq_getElem k2]; rfl
    have hm : rows.getD j noRw ∈ rows := by rw [List.getD_eq_getElem?_getD, List.getElem?_eq_getElem hj]; exact List.getElem_mem hj
    rw [e4, e5, List.map_cons, List.map_cons, List.map_nil, frz_SlH e2 (ces_ne (hne _ hm)) (flat_ces _) (by omega) e3 9]
    rfl
  show (if n < lo then _ else Go.Am.frz H (badN lo []) 12 (.os n e 0 len)) = _
  rw [if_neg (by omega)]
  show (if badN lo [] n then AV.dead else match H.get n with
      | some b => if b.ep = e ∧ b.it.isNone ∧ 0 + len ≤ b.es.length ∧ 0 < b.sz then .sl b.sz (((b.es.drop 0).take len).map fun c => c.map (Go.Am.frz H (badN lo []) 11)) else .dead
      | none => .dead) = _
  rw [hb, if_neg (by decide), hg]
  show (if e = e ∧ (none : Option (ByteArray × Nat)).isNone = true ∧ 0 + len ≤ es.length ∧ 0 < 2 then AV.sl 2 (((es.drop 0).take len).map fun c => c.map (Go.Am.frz H (badN lo []) 11)) else .dead) = _
  rw [if_pos ⟨rfl, rfl, by omega, by omega⟩, List.drop_zero, List.take_of_length_le (by omega), key]
section
variable {ys : List (Nat × LRec)} {lo : Nat} {H : AHeap} {A : AV} {l : List Ce} {es : List (List AV)} {ls : List (List Ce)}
theorem Repeat_own (k n : Nat) (hk : k < H.next) (hg : H.get k = some (cblk 0 [blankC])) (hn : n ≤ 300) : CallN (ELo oc) ys lo 110 [.os k 0 0 1, .v (.int .i64 n)] H (.os H.next 0 0 n) (H.push (cblk 0 (blanks n))) := by
  refine WC.ownN (x := fun m => .os m 0 0 n) (bs := fun _ => [cblk 0 (blanks n)]) rfl fun lo' H' hh => ?_
  rcases hh with ⟨hlo, rfl⟩ | ⟨_, _, hnf⟩
  · have hgx : ∀ b, (H'.push b).get k = some (cblk 0 [blankC]) := fun b => by rw [get_push, if_neg (by omega)]; exact hg
    have hcp := copy_two lo' (H := H'.push (cblk 0 (zeros n))) (n := H'.next) (e := 0) (off := 0) (len := n) (m := k) (e' := 0) (off' := 0) (len' := 1) (l := zeros n) (l' := [blankC]) 3 41 (by rw [get_push, if_pos rfl]) (hgx _) (by omega) (by simp [zeros]) (by simp) (by omega)
    have hmk := fun H => mk_cell lo' H n hn
    refine zvin Tryz.func110 Tryz.ntmps110 ?_
    repeat' (first
     | refine zka ?_
     | refine zkb ?_
     | (apply RKp.op; ((try simp (disch := (first | omega | exact zX | exact zO | fail)) only [wrap_u64, plan_makeSlice, hmk, hcp, hg, go_sem, Nat.reduceDiv, Nat.reduceMod, Nat.reduceAdd, Nat.reduceSub, Nat.reduceEqDiff, Nat.reduceLeDiff, Nat.reduceLT, Nat.reduceMul, reduceIte, Nat.reducePow, Int.reduceEq]); exact zL); rfl)
     | (apply RKp.call; (apply Mul_run <;> (exact zD)); rfl)
     | refine zkc ?_
     | apply RKg.tt
     | apply RKg.ff
     | refine zkd ?_
     | refine zke ?_
     | refine zkf ?_
     | (refine RKg.split (fun h => ?_) (fun h => ?_) <;> (try rw [h]) <;> (replace h := zB h) <;> (try (exfalso; first | exact h | omega)))
     | apply RK.nil
     | apply V.sq
     | apply V.bl
     | apply V.sc
     | apply V.skip
     | apply V.label
     | apply V.ret
     | apply V.exit
     | apply SeqQ.normal
     | apply SeqQ.ret
     | apply SeqQ.exit
     | apply BlockQ.normal
     | apply BlockQ.ret
     | apply BlockQ.here
     | refine zbt ?_
     | apply LoopS.ret
     | apply LoopS.exit
     | apply LoopF.ret
     | apply LoopF.exit
     | apply V.regK
      | refine zva ?_
     | refine zvb ?_
     | refine zgc ?_
     | refine zvd ?_
     | refine zve ?_
     | (refine zvf (fun h => ?_) (fun h => ?_) <;> (replace h := zB h) <;> (try (exfalso; first | exact h | omega)))
      | (refine zfc Tryz.results110 ?_; (try dsimp only)))
    apply V.lpS [8, 34, 35, 36, 37, 38, 39, 40, 41, 42, 43, 44, 45, 46] (fun k xs H2 => ∃ (i : Nat) (g : _), xs = .v (.int .i64 i) :: g ∧ k = n - i ∧ i ≤ n ∧ (0 < n → 0 < i) ∧ H'.next < H2.next ∧ H2.get H'.next = some (cblk 0 (blanks i ++ zeros (n - i)))) (n - min 1 n)
    focus (intro xs; simp only [putMany, set2, Nat.reduceAdd, Nat.reduceDiv, Nat.reduceMod, nth_zero, nth_succ, List.set_cons_zero, List.set_cons_succ]; rfl)
    focus (first | rfl | simp only [readMany, nth_zero, nth_succ, Nat.reduceDiv, Nat.reduceMod])
    · refine ⟨min 1 n, _, rfl, by omega, by omega, by omega, by (first | omega | (simp only [next_push, next_set, next_empty]; done) | (simp only [next_push, next_set, next_empty]; omega)), ?_⟩
      rw [get_push, if_pos rfl]
      congr 2
      rcases Nat.eq_zero_or_pos n with h0 | h0
      · subst h0; rfl
      · obtain ⟨j, rfl⟩ : ∃ j, n = j + 1 := ⟨n - 1, by omega⟩
        rw [Nat.min_eq_left (by omega)]
        simp [overC, zeros, blanks, List.replicate_succ]
    · rintro k' xs H2 ⟨i, g, rfl, rfl, hi, hp, hn2, g0⟩
      have hlen : (blanks i ++ zeros (n - i)).length = n := by simp [blanks, zeros]; omega
      have hsl : SlH H2 3 (.os H'.next 0 0 n) (cesA (blanks i ++ zeros (n - i))) := .inr ⟨H'.next, 0, 0, _, by rw [ces_len, hlen], hn2, g0, rfl, rfl, rfl, by simp only [Nat.zero_add, Nat.le_refl], by simp only [List.drop_zero, List.take_length]⟩
      have s1 := sl_lo lo' hsl .i64 i (by omega) (by omega)
      have s2 := sl_hi lo' hsl .i64 i (by omega) (by omega)
      rw [ces_len, hlen] at s1
      simp only [cutA, Int.toNat_natCast, Nat.zero_add, Nat.add_zero, Nat.sub_zero] at s1 s2
      have hcp := copy_self lo' (off := i) (len := n - i) (off' := 0) (len' := i) 3 41 g0 (by omega) (by omega) (by omega)
      have hln : (cesA (blanks i ++ zeros (n - i))).length = n := by rw [ces_len, hlen]
      repeat' (first
       | refine zka ?_
       | refine zkb ?_
       | (apply RKp.op; ((try simp (disch := (first | omega | exact zX | exact zO | fail)) only [s1, s2, hcp, g0, hln, List.length_take, Nat.min_self, go_sem, Nat.reduceDiv, Nat.reduceMod, Nat.reduceAdd, Nat.reduceSub, Nat.reduceEqDiff, Nat.reduceLeDiff, Nat.reduceLT, Nat.reduceMul, reduceIte, Nat.reducePow, Int.reduceEq]); exact zL); rfl)
       | refine zkc ?_
       | apply RKg.tt
       | apply RKg.ff
       | refine zkd ?_
       | refine zke ?_
       | refine zkf ?_
       | (refine RKg.split (fun h => ?_) (fun h => ?_) <;> (try rw [h]) <;> (replace h := zB h) <;> (try (exfalso; first | exact h | omega)))
       | apply RK.nil
       | apply V.sq
       | apply V.bl
       | apply V.sc
       | apply V.skip
       | apply V.label
       | apply V.ret
       | apply V.exit
       | apply SeqQ.normal
       | apply SeqQ.ret
       | apply SeqQ.exit
       | apply BlockQ.normal
       | apply BlockQ.ret
       | apply BlockQ.here
       | refine zbt ?_
       | apply LoopS.ret
       | apply LoopS.exit
       | apply LoopF.ret
       | apply LoopF.exit
       | apply V.regK
        | refine zva ?_
       | refine zvb ?_
       | refine zgc ?_
       | refine zvd ?_
       | refine zve ?_
       | (refine zvf (fun h => ?_) (fun h => ?_) <;> (replace h := zB h) <;> (try (exfalso; first | exact h | omega)))
        | (refine zfc Tryz.results110 ?_; (try dsimp only)))
      · refine LoopS.again (n - (i + min i (n - i))) (by rfl) (by omega) ⟨i + min i (n - i), _, by rw [show ((i + min i (n - i) : Nat) : Int) = (i : Int) + ((min i (n - i) : Nat) : Int) by omega]; rfl, rfl, by omega, by omega, by (first | omega | (simp only [next_push, next_set, next_empty]; done) | (simp only [next_push, next_set, next_empty]; omega)), ?_⟩
        rw [get_set, if_pos rfl]
        congr 2
        refine ce_ext (by simp [overC, blanks, zeros]; omega) fun j hj => ?_
        simp only [overC, blanks, zeros, List.getD_eq_getElem?_getD]
        grind
      · have : i = n := by omega
        subst this
        have e : blanks i ++ zeros (i - i) = blanks i := by simp [zeros]
        rw [e] at g0
        exact hands_os (b := cblk 0 (blanks i)) (by omega) g0 rfl (flat_ces _)
  · cases hnf
theorem rowBlank_own (w : Int) (w0 : 0 ≤ w) (w3 : w ≤ 300) : CallN (ELo oc) ys lo 75 [.v (.int .i64 w)] H (rowA (.os H.next 0 0 w.toNat) false) (H.push (cblk 0 (blanks w.toNat))) := by
  refine WC.ownN (x := fun m => rowA (.os m 0 0 w.toNat) false) (bs := fun _ => [cblk 0 (blanks w.toNat)]) rfl fun lo' H' hh => ?_
  have hlo := lo_two hh
  have hn : (((w.toNat : Nat) : Int)) = min (max w 0) 300 := by omega
  have hrep := Repeat_own (ys := []) (lo := lo') (H := (H'.push zblk).push (cblk 0 [blankC])) (H'.next + 1) w.toNat (by simp only [next_push]; omega) (by simp (disch := (first | omega | exact zX | fail)) only [get_set, get_push, next_push, next_set, if_pos', if_neg', if_true, if_false, reduceIte]) (by omega)
  rw [hn] at hrep
  refine zvin Tryz.func75 Tryz.ntmps75 ?_
  repeat' (first
   | refine zka ?_
   | refine zkb ?_
   | (apply RKp.op; ((try simp (disch := (first | omega | exact zX | exact zO | fail)) only [go_sem, Nat.reduceDiv, Nat.reduceMod, Nat.reduceAdd, Nat.reduceSub, Nat.reduceEqDiff, Nat.reduceLeDiff, Nat.reduceLT, Nat.reduceMul, reduceIte, Nat.reducePow, Int.reduceEq]); exact zL); rfl)
   | (apply RKp.call; (apply Blank_run <;> (exact zD)); rfl)
   | (apply RKp.callN; (apply hrep <;> (exact zD)); rfl; intro tr htr)
   | refine zkc ?_
   | apply RKg.tt
   | apply RKg.ff
   | refine zkd ?_
   | refine zke ?_
   | refine zkf ?_
   | (refine RKg.split (fun h => ?_) (fun h => ?_) <;> (try rw [h]) <;> (replace h := zB h) <;> (try (exfalso; first | exact h | omega)))
   | apply RK.nil
   | apply V.sq
   | apply V.bl
   | apply V.sc
   | apply V.skip
   | apply V.label
   | apply V.ret
   | apply V.exit
   | apply SeqQ.normal
   | apply SeqQ.ret
   | apply SeqQ.exit
   | apply BlockQ.normal
   | apply BlockQ.ret
   | apply BlockQ.here
   | refine zbt ?_
   | apply LoopS.ret
   | apply LoopS.exit
   | apply LoopF.ret
   | apply LoopF.exit
   | apply V.regK
   | refine zvd ?_
   | refine zve ?_
   | (refine zvf (fun h => ?_) (fun h => ?_) <;> (replace h := zB h) <;> (try (exfalso; first | exact h | omega)))
    | (refine FnQ.retB (resc Tryz.results75) (by simp (disch := (first | omega | exact zX | exact zO | fail)) only [cellR_op, go_sem, Nat.reduceDiv, Nat.reduceMod, Nat.reduceAdd, Nat.reduceSub, Nat.reduceEqDiff, Nat.reduceLeDiff, Nat.reduceLT, Nat.reduceMul, reduceIte, Nat.reducePow, Int.reduceEq]; rfl) ?_; (try dsimp only)))
  refine hands_agg (b := cblk 0 (blanks w.toNat)) ?_ ?_ rfl (flat_ces _)
  · omega
  · simp (disch := (first | omega | exact zX | fail)) only [get_set, get_push, next_push, next_set, if_pos', if_neg', if_true, if_false, reduceIte]
end
end Go.Am
