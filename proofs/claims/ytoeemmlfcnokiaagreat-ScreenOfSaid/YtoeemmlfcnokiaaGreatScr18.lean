/- The reference's Of. -/
import Derived.Test.YtoeemmlfcnokiaaGreatScr12
import Derived.Test.YtoeemmlfcnokiaaGreatScr7
set_option linter.all false
set_option linter.deprecated false
namespace Go.Am
open Go.Proofs
set_option maxRecDepth 8000
set_option maxHeartbeats 4000000
theorem splice_none (l : List Ce) (a : Nat) : splice l a [] = l :=
  ce_ext (splice_len _ _ _) fun j hj => by rw [splice_len] at hj; rw [splice_at _ _ _ _ hj, if_neg (by simp)]
theorem take_at (l : List Ce) (w j : Nat) (h : j < w) : (l.take w).getD j zeroC = l.getD j zeroC := by
  rw [List.getD_eq_getElem?_getD, List.getElem?_take, if_pos h, List.getD_eq_getElem?_getD]
theorem app_at (l m : List Ce) (j : Nat) : (l ++ m).getD j zeroC = if j < l.length then l.getD j zeroC else m.getD (j - l.length) zeroC := by
  rw [List.getD_eq_getElem?_getD, List.getElem?_append]
  split <;> rw [List.getD_eq_getElem?_getD]
theorem cutL_at (w : Nat) (l : List Ce) (j : Nat) (h : j < min w l.length) : (cutL w l).getD j zeroC = if j + 1 = min w l.length ∧ (l.getD j zeroC).w = 2 then blankC else l.getD j zeroC := by
  have ht : (l.take w).length = min w l.length := List.length_take
  unfold cutL
  split
  · rename_i hc
    rw [ce_set, ht]
    rw [ht, take_at l w _ (by omega)] at hc
    by_cases e : min w l.length - 1 = j
    · subst e
      rw [if_pos ⟨rfl, by omega⟩, if_pos ⟨by omega, hc.2⟩]
    · rw [if_neg (fun z => e z.1), take_at l w j (by omega), if_neg (fun z => e (by omega))]
  · rename_i hc
    rw [take_at l w j (by omega), if_neg]
    rintro ⟨h1, h2⟩
    apply hc
    rw [ht, take_at l w _ (by omega)]
    exact ⟨by omega, by rw [show min w l.length - 1 = j by omega]; exact h2⟩
theorem over_fit {l : List Ce} (hl : rowG l) (w : Nat) (hw : 0 < w) : overL ((l ++ blanks (w - l.length)).take w) 0 [] = fitL w l := by
  have hlen : ((l ++ blanks (w - l.length)).take w).length = w := by rw [List.length_take, List.length_append, blanks_len]; omega
  refine overL_eq (by rw [fitL_len, hlen]) fun i hi => ?_
  rw [hlen] at hi
  rw [splice_none, hlen]
  have hq : ∀ j, j < w → ((l ++ blanks (w - l.length)).take w).getD j zeroC = if j < l.length then l.getD j zeroC else blankC := fun j hj => by
    rw [take_at _ _ _ hj, app_at]
    split
    · rfl
    · exact blanks_at _ _ (by omega)
  have hf : ∀ j, j < w → (fitL w l).getD j zeroC = if j < l.length then (if j + 1 = min w l.length ∧ (l.getD j zeroC).w = 2 then blankC else l.getD j zeroC) else blankC := fun j hj => by
    unfold fitL
    rw [app_at, cutL_len]
    by_cases h : j < l.length
    · rw [if_pos (by omega), if_pos h, cutL_at _ _ _ (by omega)]
    · rw [if_neg (by omega), if_neg h]; exact blanks_at _ _ (by omega)
  rw [hf i hi, hq i hi]
  by_cases h : i < l.length
  · rw [if_pos h, if_pos h]
    obtain ⟨_, h0, h2⟩ := hl.2 i h
    by_cases e2 : (l.getD i zeroC).w = 2
    · obtain ⟨h3, h4⟩ := h2 e2
      by_cases e : i + 1 = w
      · rw [if_pos ⟨by omega, e2⟩, if_pos (.inl ⟨e2, .inl e⟩)]
      · rw [if_neg (fun z => by omega), if_neg]
        rintro (⟨_, z | z⟩ | ⟨z, _⟩)
        · exact e z
        · rw [hq (i + 1) (by omega), if_pos h3] at z; exact z h4
        · omega
    · rw [if_neg (fun z => e2 z.2), if_neg]
      rintro (⟨z, _⟩ | ⟨z, z2⟩)
      · exact e2 z
      · obtain ⟨a1, a2, _⟩ := h0 z
        rcases z2 with z2 | z2
        · omega
        · rw [hf (i - 1) (by omega), if_pos (by omega), if_neg (fun y => by omega)] at z2
          exact z2 a2
  · rw [if_neg h, if_neg h, if_neg]
    rintro (⟨z, _⟩ | ⟨z, _⟩) <;> exact absurd z (by decide)
section
variable {ys : List (Nat × LRec)} {lo : Nat} {H : AHeap} {A : AV} {l : List Ce} {wr : Bool}
theorem Row_big (hA : Sl 3 A (cesA l)) (hl : l.length < 2 ^ 63) (h32 : R32 l) : CallRo EZ ys lo 30 [.agg [A, .v (.bool wr)]] H (.v (.bool (decide (rowG l)))) := by
  by_cases h300 : l.length ≤ 300
  · exact Row_R (.inl hA) (by omega) h32
  · refine WC.pureR rfl fun lo' H' hh => ?_
    have hA1 : ∀ G, SlH G 3 A (cesA l) := fun G => .inl hA
    rw [decide_eq_false (fun h => h300 h.1)]
    have lnc := fun G => len_cell lo' (hA1 G)
    refine zvin Tryz.func30 Tryz.ntmps30 ?_
    repeat' (first
     | refine zka ?_
     | refine zkb ?_
     | (apply RKp.op; ((try simp (disch := (first | omega | exact zX | exact zO | fail)) only [lnc, go_sem, Nat.reduceDiv, Nat.reduceMod, Nat.reduceAdd, Nat.reduceSub, Nat.reduceEqDiff, Nat.reduceLeDiff, Nat.reduceLT, Nat.reduceMul, reduceIte, Nat.reducePow, Int.reduceEq]); exact zL); rfl)
     | refine zkc ?_
     | apply RKg.tt
     | apply RKg.ff
     | refine zkd ?_
     | refine zke ?_
     | refine zkf ?_
     | (refine RKg.split (fun h => ?_) (fun h => ?_) <;> (try rw [h]) <;> (replace h := zB h) <;> (try (exfalso; first | exact h | omega)))
     | apply RK.nil
     | apply V.sq
     | apply V.bl
     | apply V.sc
     | apply V.skip
     | apply V.label
     | apply V.ret
     | apply V.exit
     | apply SeqQ.normal
     | apply SeqQ.ret
     | apply SeqQ.exit
     | apply BlockQ.normal
     | apply BlockQ.ret
     | apply BlockQ.here
     | refine zbt ?_
     | apply LoopS.ret
     | apply LoopS.exit
     | apply LoopF.ret
     | apply LoopF.exit
     | apply V.regK
      | refine zva ?_
     | refine zvb ?_
     | refine zgc ?_
     | refine zvd ?_
     | refine zve ?_
     | (refine zvf (fun h => ?_) (fun h => ?_) <;> (replace h := zB h) <;> (try (exfalso; first | exact h | omega)))
      | (refine zfc Tryz.results30 ?_; (try dsimp only)))
    apply V.lpF [4, 2, 7, 8, 9, 10, 11, 12, 13, 14, 15, 16, 17, 18, 19, 20, 21, 22, 23, 24, 25, 26, 27, 28, 29, 30, 31, 32, 33, 34, 35, 36, 37, 38, 39, 40, 41, 42, 43, 44, 45, 46, 47, 48, 49, 50, 51, 52, 53, 54, 55, 56, 57, 58, 59, 60, 61, 62, 63, 64, 65, 66, 67, 68, 69, 70, 71, 72, 73, 74, 75, 76, 77, 78, 79, 80, 81, 82] (fun m xs => ∃ (i : Nat) (g : _), xs = .v (.int .i64 i) :: g ∧ m = l.length - i ∧ i ≤ l.length) l.length
    focus (intro xs; simp only [putMany, set2, Nat.reduceAdd, Nat.reduceDiv, Nat.reduceMod, nth_zero, nth_succ, List.set_cons_zero, List.set_cons_succ]; rfl)
    focus (first | rfl | simp only [readMany, nth_zero, nth_succ, Nat.reduceDiv, Nat.reduceMod])
    · exact ⟨0, _, rfl, rfl, Nat.zero_le _⟩
    · rintro m xs ⟨i, g, rfl, rfl, hi⟩
      have hr := h32 i
      have e1 : ((i : Int) + 1).toNat = i + 1 := by omega
      have e2 : ((i : Int) - 1).toNat = i - 1 := by omega
      have x1 := fun G => ix_cell lo' (hA1 G)
      have x2 := fun G => ld_cell lo' (hA1 G)
      have x3 := fun G => fa_cell lo' (hA1 G)
      have x4 := fun G => lf_w lo' (hA1 G)
      have x5 := fun G => lf_a lo' (hA1 G)
      repeat' (first
       | refine zka ?_
       | refine zkb ?_
       | (apply RKp.op; ((try simp (disch := (first | omega | exact zX | exact zO | fail)) only [lnc, x1, x2, x3, x4, x5, eqC0, eqC1, e1, e2, go_sem, Nat.reduceDiv, Nat.reduceMod, Nat.reduceAdd, Nat.reduceSub, Nat.reduceEqDiff, Nat.reduceLeDiff, Nat.reduceLT, Nat.reduceMul, reduceIte, Nat.reducePow, Int.reduceEq]); exact zL); rfl)
       | (apply RKp.call; (apply Cell_run <;> (exact zD)); rfl)
       | refine zkc ?_
       | apply RKg.tt
       | apply RKg.ff
       | refine zkd ?_
       | refine zke ?_
       | refine zkf ?_
       | (refine RKg.split (fun h => ?_) (fun h => ?_) <;> (try rw [h]) <;> (replace h := zB h) <;> (try (exfalso; first | exact h | omega)))
       | apply RK.nil
       | apply V.sq
       | apply V.bl
       | apply V.sc
       | apply V.skip
       | apply V.label
       | apply V.ret
       | apply V.exit
       | apply SeqQ.normal
       | apply SeqQ.ret
       | apply SeqQ.exit
       | apply BlockQ.normal
       | apply BlockQ.ret
       | apply BlockQ.here
       | refine zbt ?_
       | apply LoopS.ret
       | apply LoopS.exit
       | apply LoopF.ret
       | apply LoopF.exit
       | apply V.regK
        | refine zva ?_
       | refine zvb ?_
       | refine zgc ?_
       | refine zvd ?_
       | refine zve ?_
       | (refine zvf (fun h => ?_) (fun h => ?_) <;> (replace h := zB h) <;> (try (exfalso; first | exact h | omega)))
        | (refine zfc Tryz.results30 ?_; (try dsimp only)))
      all_goals first
        | exact LoopF.again (l.length - (i + 1)) (by rfl) (by omega) ⟨i + 1, _, rfl, rfl, by omega⟩
        | (rw [frzR_v]; done)
        | (rw [frzR_v]; congr 2; rw [decide_eq_false]; omega)
        | trace_state
end
/-- A slice of one's own grows by one; all else is as it was. -/
theorem OwnS.add1 (E : Env) (lo : Nat) {H : AHeap} {F : Nat → Prop} {t elem bytes sz : Nat} {x : AV} {es : List (List AV)} (ho : OwnS H F elem sz x es) (h : appInfo E.P t = some (elem, bytes, sz)) (hlo : ∀ k, F k → lo ≤ k) (hr : (es.length + 1) * bytes ≤ roomMax) (cs : List AV) :
    ∃ x' H' tr, primL lo (H.push ⟨elem, sz, 0, [cs], none⟩) (appendA E t x (.os H.next 0 0 1)) = some (x', H', tr) ∧ OwnS H' (fun k => F k ∨ H.next ≤ k) elem sz x' (es ++ [cs]) ∧ H.next ≤ H'.next ∧ ∀ k, k < H.next → ¬ nameOf x k → H'.get k = H.get k := by
  rcases ho with ⟨rfl, hs⟩ | ⟨n, e, rfl, hf, hl, hg⟩
  · refine ⟨_, _, _, app_one_new E lo H h (by simpa using hr) cs hs, .inr ⟨H.next + 1, 0, rfl, .inr (by omega), by simp only [next_push]; omega, by simp only [get_push, next_push, if_true]; rfl⟩, by simp only [next_push]; omega, fun k hk _ => by rw [get_push, if_neg (by rw [next_push]; omega), get_push, if_neg (by omega)]⟩
  · refine ⟨_, _, _, app_one_os E lo h hg hl rfl (hlo n hf) hr cs, .inr ⟨n, e + 1, by rw [List.length_append]; rfl, .inl hf, by simp only [next_set, next_push]; omega, by rw [get_set, if_pos rfl]⟩, by simp only [next_set, next_push]; omega, fun k hk hn => by
      rw [get_set, if_neg (fun z => hn ⟨_, _, _, by rw [z]⟩), get_push, if_neg (by omega)]⟩
theorem OwnS.nm {H : AHeap} {F : Nat → Prop} {elem sz k : Nat} {x : AV} {es : List (List AV)} (h : OwnS H F elem sz x es) (hk : nameOf x k) : F k := by
  obtain ⟨_, _, _, hx⟩ := hk
  rcases h with ⟨_, rfl | rfl⟩ | ⟨n, e, rfl, hf, _⟩
  · cases hx
  · cases hx
  · cases hx; exact hf
theorem nameOf_cut {x : AV} {a b k : Nat} (h : nameOf (cutA x a b) k) : nameOf x k := by
  obtain ⟨_, _, _, hx⟩ := h
  cases x <;> simp [cutA] at hx
  obtain ⟨rfl, _⟩ := hx
  exact ⟨_, _, _, rfl⟩
section
variable {ys : List (Nat × LRec)} {lo : Nat} {H : AHeap} {A : AV} {es : List (List AV)} {rows : List Rw}
theorem rOf_wc {lo' : Nat} {H' : AHeap} (hlo : lo' = H'.next) (hA' : SlH H' 2 A es) (hr : RowsP es rows) (h32 : ∀ r ∈ rows, R32 r.1) (hlen : rows.length < 2 ^ 40) (w h ar ac a : Int) (ha : -9223372036854775808 ≤ a ∧ a ≤ 9223372036854775807) : WC EZ [] lo' 50 [A, .v (.int .i64 w), .v (.int .i64 h), .agg [.v (.int .i64 ar), .v (.int .i64 ac)], .v (.int .i64 a)] H' fun r H'' => ∃ n m e, r = .op n 0 0 0 ∧ lo' ≤ n ∧ lo' ≤ m ∧ SP 110 0 H'' n m e (Sc.of rows w h ar ac a) := by
  have w2 : 2 ≤ min (max w 2) 300 := by omega
  have w3 : min (max w 2) 300 ≤ 300 := by omega
  have h1 : 1 ≤ min (max h 1) 100 := by omega
  have h2 : min (max h 1) 100 ≤ 100 := by omega
  obtain ⟨a1, a2, a3⟩ := attr_in a
  have hNew := fun ys => rNew_E (ys := ys) (lo := lo') (H := H'.push (pblk ar ac)) w h
  refine zvin Tryz.func50 Tryz.ntmps50 ?_
  repeat' (first
   | refine zka ?_
   | refine zkb ?_
   | (apply RKp.op; ((try simp (disch := (first | omega | exact zX | exact zO | fail)) only [go_sem, Nat.reduceDiv, Nat.reduceMod, Nat.reduceAdd, Nat.reduceSub, Nat.reduceEqDiff, Nat.reduceLeDiff, Nat.reduceLT, Nat.reduceMul, reduceIte, Nat.reducePow, Int.reduceEq]); exact zL); rfl)
   | (apply RKp.callE; (apply hNew <;> (exact zD)); (intro x; rfl))
   | refine zkc ?_
   | apply RKg.tt
   | apply RKg.ff
   | refine zkd ?_
   | refine zke ?_
   | refine zkf ?_
   | (refine RKg.split (fun h => ?_) (fun h => ?_) <;> (try rw [h]) <;> (replace h := zB h) <;> (try (exfalso; first | exact h | omega)))
   | apply RK.nil
   | apply V.sq
   | apply V.bl
   | apply V.sc
   | apply V.skip
   | apply V.label
   | apply V.ret
   | apply V.exit
   | apply SeqQ.normal
   | apply SeqQ.ret
   | apply SeqQ.exit
   | apply BlockQ.normal
   | apply BlockQ.ret
   | apply BlockQ.here
   | refine zbt ?_
   | apply LoopS.ret
   | apply LoopS.exit
   | apply LoopF.ret
   | apply LoopF.exit
   | apply V.regK
    | refine zva ?_
   | refine zvb ?_
   | refine zgc ?_
   | refine zvd ?_
   | refine zve ?_
   | (refine zvf (fun h => ?_) (fun h => ?_) <;> (replace h := zB h) <;> (try (exfalso; first | exact h | omega)))
    | (refine zfc Tryz.results50 ?_; (try dsimp only)))
  rintro x H1 tr ⟨n, m0, rfl, hS0, b1, b2, hx1⟩
  rw [next_push] at b1 b2
  unfold Sc.of
  unfold Sc.new at hS0
  generalize min (max w 2) 300 = w' at *
  generalize min (max h 1) 100 = h' at *
  repeat' (first
   | refine zka ?_
   | refine zkb ?_
   | (apply RKp.op; ((try simp (disch := (first | omega | exact zX | exact zO | fail)) only [go_sem, Nat.reduceDiv, Nat.reduceMod, Nat.reduceAdd, Nat.reduceSub, Nat.reduceEqDiff, Nat.reduceLeDiff, Nat.reduceLT, Nat.reduceMul, reduceIte, Nat.reducePow, Int.reduceEq]); exact zL); rfl)
   | refine zkc ?_
   | apply RKg.tt
   | apply RKg.ff
   | refine zkd ?_
   | refine zke ?_
   | refine zkf ?_
   | (refine RKg.split (fun h => ?_) (fun h => ?_) <;> (try rw [h]) <;> (replace h := zB h) <;> (try (exfalso; first | exact h | omega)))
   | apply RK.nil
   | apply V.sq
   | apply V.bl
   | apply V.sc
   | apply V.skip
   | apply V.label
   | apply V.ret
   | apply V.exit
   | apply SeqQ.normal
   | apply SeqQ.ret
   | apply SeqQ.exit
   | apply BlockQ.normal
   | apply BlockQ.ret
   | apply BlockQ.here
   | refine zbt ?_
   | apply LoopS.ret
   | apply LoopS.exit
   | apply LoopF.ret
   | apply LoopF.exit
   | apply V.regK
    | refine zva ?_
   | refine zvb ?_
   | refine zgc ?_
   | refine zvd ?_
   | refine zve ?_
   | (refine zvf (fun h => ?_) (fun h => ?_) <;> (replace h := zB h) <;> (try (exfalso; first | exact h | omega)))
    | (refine zfc Tryz.results50 ?_; (try dsimp only)))
  apply V.lpS [12, 13, 17, 18, 19, 20, 21, 22, 23, 24, 25, 26, 27, 28, 29, 30, 31, 32, 33, 34, 35, 36, 37, 38, 39, 40, 41, 42, 43, 44, 45, 46, 47, 48, 49, 50, 51, 52, 53, 54, 55, 56, 57, 58, 59, 60, 61, 62, 63, 64, 65, 66, 67, 68, 69, 70, 71] (fun k xs H2 => ∃ (i : Nat) (g : _) (m e : Nat) (rs : List Rw), xs = .v (.int .i64 i) :: g ∧ k = h'.toNat - i ∧ i ≤ h'.toNat ∧ i ≤ rows.length ∧ Ext (H'.push (pblk ar ac)) H2 ∧ SP 110 0 H2 n m e ⟨w', h', rs, 0, 0, 0⟩ ∧ H'.next ≤ m ∧ m ≠ H'.next ∧ rs.length = h'.toNat ∧ ∀ j, j < rs.length → rs.getD j noRw = if j < i then ofRow rows w' j else (blanks w'.toNat, false)) h'.toNat
  focus (intro xs; simp only [putMany, set2, Nat.reduceAdd, Nat.reduceDiv, Nat.reduceMod, nth_zero, nth_succ, List.set_cons_zero, List.set_cons_succ]; rfl)
  focus (first | rfl | simp only [readMany, nth_zero, nth_succ, Nat.reduceDiv, Nat.reduceMod])
  · refine ⟨0, _, m0, 0, _, rfl, rfl, Nat.zero_le _, Nat.zero_le _, hx1, hS0, by omega, by omega, by simp, fun j hj => ?_⟩
    rw [if_neg (by omega)]
    simp at hj
    simp [List.getD_eq_getElem?_getD, hj]
  · rintro k xs H2 ⟨i, g, m, e, rs, rfl, rfl, hi, hi2, hx, hS, hm1, hm2, hrl, hrs⟩
    have hxe := ((Ext.refl H').push (pblk ar ac)).trans hx
    have hA2 := hA'.ext hxe
    have lenE : ∀ G, Ext H2 G → primL lo' G (builtinA EZ .len #[68] 3 [A]) = some (.v (.int .i64 rows.length), G, rdTr A) := fun G hG => by
      have := len_SlH EZ lo' 68 3 (hA2.ext hG) (by kernel_rfl)
      rw [hr.1] at this; exact this
    have hb := hS.blk; have hm := hS.rows; have nn := hS.nn; have mn := hS.mn; have ne := hS.ne
    dsimp only at hb hm
    have gP : H2.get H'.next = some (pblk ar ac) := by rw [hx.get _ (by (first | omega | (simp only [next_push, next_set, next_empty]; done) | (simp only [next_push, next_set, next_empty]; omega))), get_push, if_pos rfl]
    by_cases hlt : (i : Int) < h' ∧ i < rows.length
    · obtain ⟨hlt1, hlt2⟩ := hlt
      obtain ⟨B, hB1, hB2, hB3⟩ := hr.2 i hlt2
      have ixE : ∀ G, Ext H2 G → primL lo' G (indexAddrA EZ 68 A (.v (.int .i64 (i : Int)))) = some (ixA A es i, G, rdTr A) := fun G hG =>
        ix_SlH EZ lo' 68 .i64 (i : Int) (hA2.ext hG) (by kernel_rfl) (by omega) (by rw [hr.1]; omega)
      have ldE : ∀ G, Ext H2 G → primL lo' G (loadA EZ 47 (ixA A es i)) = some (.agg [B, .v (.bool (rows.getD i noRw).2)], G, rdTr A) := fun G hG => by
        rw [load_SlH EZ lo' 47 i (hA2.ext hG) (by rw [hr.1]; exact hlt2), hB1]; rfl
      have hRow := fun ys G => Row_big (ys := ys) (lo := lo') (H := G) (wr := (rows.getD i noRw).2) hB2 hB3 (h32 _ (getMem noRw hlt2))
      have hro : ofRow rows w' i = fitR w' (rows.getD i noRw) := by unfold ofRow; rw [if_pos hlt2]
      generalize rows.getD i noRw = q at *
      obtain ⟨l, wr⟩ := q
      dsimp only at *
      by_cases hG : rowG l
      · have d1 : decide (rowG l) = true := decide_eq_true hG
        have hCp := fun ys G => Copy_E (ys := ys) (lo := lo') (H := G) (wr := wr) (.inl hB2) (by have := hG.1; omega)
        have hro2 : ofRow rows w' i = (fitL w'.toNat l, wr) := by rw [hro]; unfold fitR; rw [if_pos hG]
        repeat' (first
         | refine zka ?_
         | refine zkb ?_
         | (apply RKp.op; ((try simp (disch := (first | omega | exact zX | exact zO | fail)) only [lenE, ixE, ldE, hb, d1, go_sem, Nat.reduceDiv, Nat.reduceMod, Nat.reduceAdd, Nat.reduceSub, Nat.reduceEqDiff, Nat.reduceLeDiff, Nat.reduceLT, Nat.reduceMul, reduceIte, Nat.reducePow, Int.reduceEq]); exact zL); rfl)
         | (apply RKp.callR; (apply hRow <;> (exact zD)); rfl; intro tr htr)
         | (apply RKp.callE; (apply hCp <;> (exact zD)); (intro x; rfl))
         | refine zkc ?_
         | apply RKg.tt
         | apply RKg.ff
         | refine zkd ?_
         | refine zke ?_
         | refine zkf ?_
         | (refine RKg.split (fun h => ?_) (fun h => ?_) <;> (try rw [h]) <;> (replace h := zB h) <;> (try (exfalso; first | exact h | omega)))
         | apply RK.nil
         | apply V.sq
         | apply V.bl
         | apply V.sc
         | apply V.skip
         | apply V.label
         | apply V.ret
         | apply V.exit
         | apply SeqQ.normal
         | apply SeqQ.ret
         | apply SeqQ.exit
         | apply BlockQ.normal
         | apply BlockQ.ret
         | apply BlockQ.here
         | refine zbt ?_
         | apply LoopS.ret
         | apply LoopS.exit
         | apply LoopF.ret
         | apply LoopF.exit
         | apply V.regK
          | refine zva ?_
         | refine zvb ?_
         | refine zgc ?_
         | refine zvd ?_
         | refine zve ?_
         | (refine zvf (fun h => ?_) (fun h => ?_) <;> (replace h := zB h) <;> (try (exfalso; first | exact h | omega)))
          | (refine zfc Tryz.results50 ?_; (try dsimp only)))
        rintro x H3 tr3 hcp
        obtain ⟨x0, rfl, ho0, hx3⟩ : ∃ x0, x = rowA x0 wr ∧ OwnS H3 (fun k => H2.next ≤ k ∧ k ≠ H3.next) 61 3 x0 (cesA l) ∧ Ext H2 H3 := by
          rcases hcp with ⟨rfl, rfl, rfl⟩ | ⟨_, rfl, rfl⟩
          · exact ⟨_, rfl, .inl ⟨rfl, .inr rfl⟩, Ext.refl _⟩
          · exact ⟨_, rfl, .inr ⟨H2.next, 0, by rw [ces_len], ⟨Nat.le_refl _, by (first | omega | (simp only [next_push, next_set, next_empty]; done) | (simp only [next_push, next_set, next_empty]; omega))⟩, by (first | omega | (simp only [next_push, next_set, next_empty]; done) | (simp only [next_push, next_set, next_empty]; omega)), by simp (disch := (first | omega | exact zX | fail)) only [get_set, get_push, next_push, next_set, if_pos', if_neg', if_true, if_false, reduceIte]⟩, (Ext.refl _).push _⟩
        have hc0 := cells_SlH ho0.slh
        have n3 := hx3.next
        repeat' (first
         | refine zka ?_
         | refine zkb ?_
         | (apply RKp.op; ((try simp (disch := (first | omega | exact zX | exact zO | fail)) only [hc0, go_sem, Nat.reduceDiv, Nat.reduceMod, Nat.reduceAdd, Nat.reduceSub, Nat.reduceEqDiff, Nat.reduceLeDiff, Nat.reduceLT, Nat.reduceMul, reduceIte, Nat.reducePow, Int.reduceEq]); exact zL); rfl)
         | refine zkc ?_
         | apply RKg.tt
         | apply RKg.ff
         | refine zkd ?_
         | refine zke ?_
         | refine zkf ?_
         | (refine RKg.split (fun h => ?_) (fun h => ?_) <;> (try rw [h]) <;> (replace h := zB h) <;> (try (exfalso; first | exact h | omega)))
         | apply RK.nil
         | apply V.sq
         | apply V.bl
         | apply V.sc
         | apply V.skip
         | apply V.label
         | apply V.ret
         | apply V.exit
         | apply SeqQ.normal
         | apply SeqQ.ret
         | apply SeqQ.exit
         | apply BlockQ.normal
         | apply BlockQ.ret
         | apply BlockQ.here
         | refine zbt ?_
         | apply LoopS.ret
         | apply LoopS.exit
         | apply LoopF.ret
         | apply LoopF.exit
         | apply V.regK
          | refine zva ?_
         | refine zvb ?_
         | refine zgc ?_
         | refine zvd ?_
         | refine zve ?_
         | (refine zvf (fun h => ?_) (fun h => ?_) <;> (replace h := zB h) <;> (try (exfalso; first | exact h | omega)))
          | (refine zfc Tryz.results50 ?_; (try dsimp only)))
        apply V.lpS [42, 43, 44, 45, 46, 47, 48, 49, 50, 51, 52, 53, 54, 55] (fun k xs H4 => ∃ (j : Nat) (x : AV), k = w'.toNat - l.length - j ∧ j ≤ w'.toNat - l.length ∧ H3.next < H4.next ∧ Ext H2 H4 ∧ H4.get H3.next = some (rblk x wr) ∧ OwnS H4 (fun k => H2.next ≤ k ∧ k ≠ H3.next) 61 3 x (cesA (l ++ blanks j))) (w'.toNat - l.length)
        focus (intro xs; simp only [putMany, set2, Nat.reduceAdd, Nat.reduceDiv, Nat.reduceMod, nth_zero, nth_succ, List.set_cons_zero, List.set_cons_succ]; rfl)
        focus (first | rfl | simp only [readMany, nth_zero, nth_succ, Nat.reduceDiv, Nat.reduceMod])
        · refine ⟨0, x0, rfl, Nat.zero_le _, by (first | omega | (simp only [next_push, next_set, next_empty]; done) | (simp only [next_push, next_set, next_empty]; omega)), hx3.push _, by simp (disch := (first | omega | exact zX | fail)) only [get_set, get_push, next_push, next_set, if_pos', if_neg', if_true, if_false, reduceIte], ?_⟩
          rw [show l ++ blanks 0 = l from List.append_nil l]
          exact ho0.push _
        · rintro k xs H4 ⟨j, x, rfl, hj, n4, hx4, g4, ho⟩
          have hll : (l ++ blanks j).length = l.length + j := by rw [List.length_append, blanks_len]
          have hl3 := hG.1
          have hb4 : H4.get n = _ := (hx4.get n nn).trans hb
          have hm4 : H4.get m = _ := (hx4.get m mn).trans hm
          have lnx := len_cell lo' ho.slh
          rw [hll] at lnx
          have hc := cells_SlH ho.slh
          have hnm : ¬ nameOf x H3.next := fun h => (ho.nm h).2 rfl
          by_cases hend : ((l.length + j : Nat) : Int) < w'
          · obtain ⟨x', H5, tr5, happ, ho', hnx, hfr⟩ := ho.add1 EZ lo' app_cell (fun k hk => by have := hxe.next; omega) (by rw [ces_len, hll]; unfold roomMax; omega) [.v (.int .i32 32), .v (.int .i64 1), .v (.int .i64 0)]
            have k0 : H5.get H3.next = some (rblk x wr) := by rw [hfr _ n4 hnm]; exact g4
            have hc' := cells_SlH ho'.slh
            have hlx : lo' ≤ H3.next := by have := hxe.next; omega
            repeat' (first
             | refine zka ?_
             | refine zkb ?_
             | (apply RKp.op; ((try simp (disch := (first | omega | exact zX | exact zO | fail)) only [hb4, lnx, g4, k0, happ, hc, hc', go_sem, Nat.reduceDiv, Nat.reduceMod, Nat.reduceAdd, Nat.reduceSub, Nat.reduceEqDiff, Nat.reduceLeDiff, Nat.reduceLT, Nat.reduceMul, reduceIte, Nat.reducePow, Int.reduceEq]); exact zL); rfl)
             | (apply RKp.call; (apply refBlank_run <;> (exact zD)); rfl)
             | refine zkc ?_
             | apply RKg.tt
             | apply RKg.ff
             | refine zkd ?_
             | refine zke ?_
             | refine zkf ?_
             | (refine RKg.split (fun h => ?_) (fun h => ?_) <;> (try rw [h]) <;> (replace h := zB h) <;> (try (exfalso; first | exact h | omega)))
             | apply RK.nil
             | apply V.sq
             | apply V.bl
             | apply V.sc
             | apply V.skip
             | apply V.label
             | apply V.ret
             | apply V.exit
             | apply SeqQ.normal
             | apply SeqQ.ret
             | apply SeqQ.exit
             | apply BlockQ.normal
             | apply BlockQ.ret
             | apply BlockQ.here
             | refine zbt ?_
             | apply LoopS.ret
             | apply LoopS.exit
             | apply LoopF.ret
             | apply LoopF.exit
             | apply V.regK
              | refine zva ?_
             | refine zvb ?_
             | refine zgc ?_
             | refine zvd ?_
             | refine zve ?_
             | (refine zvf (fun h => ?_) (fun h => ?_) <;> (replace h := zB h) <;> (try (exfalso; first | exact h | omega)))
              | (refine zfc Tryz.results50 ?_; (try dsimp only)))
            refine LoopS.again (w'.toNat - l.length - (j + 1)) (by rfl) (by omega) ⟨j + 1, x', rfl, by omega, by (first | omega | (simp only [next_push, next_set, next_empty]; done) | (simp only [next_push, next_set, next_empty]; omega)), ?_, by simp (disch := (first | omega | exact zX | fail)) only [get_set, get_push, next_push, next_set, if_pos', if_neg', if_true, if_false, reduceIte], ?_⟩
            · refine Ext.set ⟨by omega, fun k hk => ?_⟩ (by omega) _
              rw [hfr k (by have := hx4.next; omega) (fun h => by have := ho.nm h; omega)]
              exact hx4.get k hk
            · have e9 : cesA (l ++ blanks j) ++ [[.v (.int .i32 32), .v (.int .i64 1), .v (.int .i64 0)]] = cesA (l ++ blanks (j + 1)) := by
                have := blanks_succ j
                simp only [cesA, List.map_append] at this ⊢
                rw [List.append_assoc, this]
              rw [e9] at ho'
              have ho2 : OwnS H5 (fun k => H2.next ≤ k ∧ k ≠ H3.next) 61 3 x' (cesA (l ++ blanks (j + 1))) := ho'.mono fun k hk => by
                have := hx4.next
                rcases hk with hk | hk <;> omega
              refine ho2.frame (fun k hk => hk) (Nat.le_refl _) fun k hk _ => ?_
              rw [get_set, if_neg (by omega)]
          · have hj2 : j = w'.toNat - l.length := by omega
            have hlx : lo' ≤ H3.next := by have := hxe.next; omega
            have slx := fun κ => sl_hi lo' ho.slh κ w' (by omega) (by rw [hll]; omega)
            have hcut := cut_hi ho.slh w'.toNat (by rw [hll]; omega)
            have hcc := cells_SlH hcut
            have hcut2 : SlH (H4.set H3.next (rblk (cutA x 0 w'.toNat) wr)) 3 (cutA x 0 w'.toNat) (cesA ((l ++ blanks j).take w'.toNat)) :=
              ((Fr.refl H4 H3.next H3.next).setn _).ext hcut fun k hk => by
                have := ho.nm (nameOf_cut hk); omega
            have hov := fun ys => over_run (ys := ys) (lo := lo') (wr := wr) (B := .v (.slice none 0 0)) (m := []) hcut2 (.inl (.inr ⟨rfl, .inr rfl⟩)) (by rw [List.length_take]; omega) 0 (by simp)
            rw [hj2, over_fit hG w'.toNat (by omega)] at hov
            repeat' (first
             | refine zka ?_
             | refine zkb ?_
             | (apply RKp.op; ((try simp (disch := (first | omega | exact zX | exact zO | fail)) only [hb4, lnx, g4, hc, slx, hcc, go_sem, Nat.reduceDiv, Nat.reduceMod, Nat.reduceAdd, Nat.reduceSub, Nat.reduceEqDiff, Nat.reduceLeDiff, Nat.reduceLT, Nat.reduceMul, reduceIte, Nat.reducePow, Int.reduceEq]); exact zL); rfl)
             | (apply RKp.callRE; (apply hov <;> (exact zD)); (intro x; rfl))
             | refine zkc ?_
             | apply RKg.tt
             | apply RKg.ff
             | refine zkd ?_
             | refine zke ?_
             | refine zkf ?_
             | (refine RKg.split (fun h => ?_) (fun h => ?_) <;> (try rw [h]) <;> (replace h := zB h) <;> (try (exfalso; first | exact h | omega)))
             | apply RK.nil
             | apply V.sq
             | apply V.bl
             | apply V.sc
             | apply V.skip
             | apply V.label
             | apply V.ret
             | apply V.exit
             | apply SeqQ.normal
             | apply SeqQ.ret
             | apply SeqQ.exit
             | apply BlockQ.normal
             | apply BlockQ.ret
             | apply BlockQ.here
             | refine zbt ?_
             | apply LoopS.ret
             | apply LoopS.exit
             | apply LoopF.ret
             | apply LoopF.exit
             | apply V.regK
              | refine zva ?_
             | refine zvb ?_
             | refine zgc ?_
             | refine zvd ?_
             | refine zve ?_
             | (refine zvf (fun h => ?_) (fun h => ?_) <;> (replace h := zB h) <;> (try (exfalso; first | exact h | omega)))
              | (refine zfc Tryz.results50 ?_; (try dsimp only)))
            rintro x1 tr6 htr ⟨A', rfl, hA3⟩
            have e7 := Sl_ne hA3 (ces_ne (len_ne (m := blanks w'.toNat) (fun e => by have := blanks_len w'.toNat; rw [e] at this; simp at this; omega) (by rw [fitL_len, blanks_len])))
            subst e7
            have hml : lo' ≤ m := by omega
            have f1 := hx4.next
            repeat' (first
             | refine zka ?_
             | refine zkb ?_
             | (apply RKp.op; ((try simp (disch := (first | omega | exact zX | exact zO | fail)) only [hb4, hm4, g4, nth_rowsA, rowsA_len, rowsA_set, Int.toNat_natCast, go_sem, Nat.reduceDiv, Nat.reduceMod, Nat.reduceAdd, Nat.reduceSub, Nat.reduceEqDiff, Nat.reduceLeDiff, Nat.reduceLT, Nat.reduceMul, reduceIte, Nat.reducePow, Int.reduceEq]); exact zL); rfl)
             | refine zkc ?_
             | apply RKg.tt
             | apply RKg.ff
             | refine zkd ?_
             | refine zke ?_
             | refine zkf ?_
             | (refine RKg.split (fun h => ?_) (fun h => ?_) <;> (try rw [h]) <;> (replace h := zB h) <;> (try (exfalso; first | exact h | omega)))
             | apply RK.nil
             | apply V.sq
             | apply V.bl
             | apply V.sc
             | apply V.skip
             | apply V.label
             | apply V.ret
             | apply V.exit
             | apply SeqQ.normal
             | apply SeqQ.ret
             | apply SeqQ.exit
             | apply BlockQ.normal
             | apply BlockQ.ret
             | apply BlockQ.here
             | refine zbt ?_
             | apply LoopS.ret
             | apply LoopS.exit
             | apply LoopF.ret
             | apply LoopF.exit
             | apply V.regK
              | refine zva ?_
             | refine zvb ?_
             | refine zgc ?_
             | refine zvd ?_
             | refine zve ?_
             | (refine zvf (fun h => ?_) (fun h => ?_) <;> (replace h := zB h) <;> (try (exfalso; first | exact h | omega)))
              | (refine zfc Tryz.results50 ?_; (try dsimp only)))
            refine LoopS.again (h'.toNat - (i + 1)) (by rfl) (by omega) ⟨i + 1, _, m, e, rs.set i (fitL w'.toNat l, wr), rfl, rfl, by omega, by omega, ?_, ?_, hm1, hm2, by rw [List.length_set]; exact hrl, fun j2 hj2 => ?_⟩
            · refine Ext.set ?_ (by rw [next_push]; omega) _
              exact hx.trans (hx4.set (by omega) _)
            · exact (hS.ext (hx4.set (by omega) _)).setm _ List.length_set
            · rw [List.length_set] at hj2
              rw [getD_rset _ _ _ _ hj2, hrs j2 hj2]
              by_cases e1 : i = j2
              · subst e1; rw [if_pos rfl, if_pos (by omega), hro2]
              · rw [if_neg e1]
                by_cases e2 : j2 < i
                · rw [if_pos e2, if_pos (by omega)]
                · rw [if_neg e2, if_neg (by omega)]
      · have d1 : decide (rowG l) = false := decide_eq_false hG
        have hro2 : ofRow rows w' i = (blanks w'.toNat, false) := by rw [hro]; unfold fitR; rw [if_neg hG]
        repeat' (first
         | refine zka ?_
         | refine zkb ?_
         | (apply RKp.op; ((try simp (disch := (first | omega | exact zX | exact zO | fail)) only [lenE, ixE, ldE, hb, d1, go_sem, Nat.reduceDiv, Nat.reduceMod, Nat.reduceAdd, Nat.reduceSub, Nat.reduceEqDiff, Nat.reduceLeDiff, Nat.reduceLT, Nat.reduceMul, reduceIte, Nat.reducePow, Int.reduceEq]); exact zL); rfl)
         | (apply RKp.callR; (apply hRow <;> (exact zD)); rfl; intro tr htr)
         | refine zkc ?_
         | apply RKg.tt
         | apply RKg.ff
         | refine zkd ?_
         | refine zke ?_
         | refine zkf ?_
         | (refine RKg.split (fun h => ?_) (fun h => ?_) <;> (try rw [h]) <;> (replace h := zB h) <;> (try (exfalso; first | exact h | omega)))
         | apply RK.nil
         | apply V.sq
         | apply V.bl
         | apply V.sc
         | apply V.skip
         | apply V.label
         | apply V.ret
         | apply V.exit
         | apply SeqQ.normal
         | apply SeqQ.ret
         | apply SeqQ.exit
         | apply BlockQ.normal
         | apply BlockQ.ret
         | apply BlockQ.here
         | refine zbt ?_
         | apply LoopS.ret
         | apply LoopS.exit
         | apply LoopF.ret
         | apply LoopF.exit
         | apply V.regK
          | refine zva ?_
         | refine zvb ?_
         | refine zgc ?_
         | refine zvd ?_
         | refine zve ?_
         | (refine zvf (fun h => ?_) (fun h => ?_) <;> (replace h := zB h) <;> (try (exfalso; first | exact h | omega)))
          | (refine zfc Tryz.results50 ?_; (try dsimp only)))
        refine LoopS.again (h'.toNat - (i + 1)) (by rfl) (by omega) ⟨i + 1, _, m, e, rs, rfl, rfl, by omega, by omega, hx, hS, hm1, hm2, hrl, fun j hj => ?_⟩
        rw [hrs j hj]
        by_cases e1 : j = i
        · subst e1; rw [if_neg (by omega), if_pos (by omega), hro2]
        · by_cases e2 : j < i
          · rw [if_pos e2, if_pos (by omega)]
          · rw [if_neg e2, if_neg (by omega)]
    · have hrs2 : rs = (List.range h'.toNat).map (ofRow rows w') := rw_ext (by simp [hrl]) fun j hj => by
        rw [hrs j hj]
        have hj' : j < h'.toNat := by omega
        simp only [List.getD_eq_getElem?_getD, List.getElem?_map, List.getElem?_range hj', Option.map_some, Option.getD_some]
        split
        · rfl
        · rename_i hji
          unfold ofRow
          rw [if_neg (by omega)]
      have hnl : lo' ≤ n := by omega
      repeat' (first
       | refine zka ?_
       | refine zkb ?_
       | (apply RKp.op; ((try simp (disch := (first | omega | exact zX | exact zO | fail)) only [lenE, hb, gP, a1, go_sem, Nat.reduceDiv, Nat.reduceMod, Nat.reduceAdd, Nat.reduceSub, Nat.reduceEqDiff, Nat.reduceLeDiff, Nat.reduceLT, Nat.reduceMul, reduceIte, Nat.reducePow, Int.reduceEq]); exact zL); rfl)
       | refine zkc ?_
       | apply RKg.tt
       | apply RKg.ff
       | refine zkd ?_
       | refine zke ?_
       | refine zkf ?_
       | (refine RKg.split (fun h => ?_) (fun h => ?_) <;> (try rw [h]) <;> (replace h := zB h) <;> (try (exfalso; first | exact h | omega)))
       | apply RK.nil
       | apply V.sq
       | apply V.bl
       | apply V.sc
       | apply V.skip
       | apply V.label
       | apply V.ret
       | apply V.exit
       | apply SeqQ.normal
       | apply SeqQ.ret
       | apply SeqQ.exit
       | apply BlockQ.normal
       | apply BlockQ.ret
       | apply BlockQ.here
       | refine zbt ?_
       | apply LoopS.ret
       | apply LoopS.exit
       | apply LoopF.ret
       | apply LoopF.exit
       | apply V.regK
        | refine zva ?_
       | refine zvb ?_
       | refine zgc ?_
       | refine zvd ?_
       | refine zve ?_
       | (refine zvf (fun h => ?_) (fun h => ?_) <;> (replace h := zB h) <;> (try (exfalso; first | exact h | omega)))
        | (refine zfc Tryz.results50 ?_; (try dsimp only)))
      all_goals
        refine ⟨n, m, e, rfl, by omega, by omega, ?_⟩
        have := hS.turn ⟨w', h', (List.range h'.toNat).map (ofRow rows w'), min (max ar 0) (h' - 1), min (max ac 0) w', a % 256⟩ hrs2.symm
        dsimp only at this
        first
          | exact this
          | trace_state
end
end Go.Am
