
/- Lines laid out: the program's. -/
import Derived.Test.YtmcimfmibpfnhaaGreatRLinD
set_option linter.all false
set_option linter.deprecated false
namespace Go.Am
variable {oc : Orc} [OrcI oc]
open Go.Proofs
set_option maxRecDepth 8000
set_option maxHeartbeats 8000000
theorem flatRowsA (l : List Rw) : FlatE (rowsA l) := FlatE.map (fun c x hx => by simp at hx; rcases hx with rfl | rfl <;> rfl) l
theorem own_rwA {H : AHeap} {lo base : Nat} {x : AV} {l : List Rw} (ho : OwS H base 48 2 x (rowsA l)) (h0 : l = [] → x = nilA) (hb : lo ≤ base) : frzR H lo x = rwA l := by
  by_cases hl : l = []
  · subst hl; rw [h0 rfl]; rfl
  · rcases ho with ⟨h1, _⟩ | ⟨n, e, rfl, h1, h2, h3⟩
    · have := congrArg List.length h1
      rw [rowsA_len] at this
      exact absurd (List.eq_nil_of_length_eq_zero this) hl
    · rw [frzR_os H lo (by omega) h3 rfl rfl (by simp) (show 0 < 2 by decide) (flatRowsA l)]
      simp [rwA, hl]

/-- Rows under way: the block n of rows, the last row's cells in m. -/
structure LayH (H : AHeap) (base w n m e : Nat) (es : List (List AV)) (done : List Rw) (cur : List Ce) : Prop where
  bn : base ≤ n
  bm : base ≤ m
  nn : n < H.next
  mn : m < H.next
  ne : n ≠ m
  gn : H.get n = some ⟨48, 2, e, es ++ [[.os m 0 0 w, .v (.bool false)]], none⟩
  gm : H.get m = some (cblk 0 (padRow w cur))
  el : es.length = done.length
  dn : ∀ j, j < done.length → ∃ m', nth [] es j = [.os m' 0 0 w, .v (.bool (done.getD j noRw).2)] ∧ m' ≠ n ∧ m' ≠ m ∧ base ≤ m' ∧ m' < H.next ∧ H.get m' = some (cblk 0 (done.getD j noRw).1) ∧ (done.getD j noRw).1.length = w

/-- A row is full: another one. -/
theorem LayH.wrap {H H' : AHeap} {base w n m m2 e : Nat} {es : List (List AV)} {done : List Rw} {cur row : List Ce} (h : LayH H base w n m e es done cur) (hm2 : H.next ≤ m2) (hn' : m2 < H'.next) (hnx : H.next ≤ H'.next) {c : List Ce}
    (gn : H'.get n = some ⟨48, 2, e + 1, (es ++ [[.os m 0 0 w, .v (.bool true)]]) ++ [[.os m2 0 0 w, .v (.bool false)]], none⟩) (gm : H'.get m = some (cblk 0 row)) (g2 : H'.get m2 = some (cblk 0 (padRow w c))) (hr : row.length = w)
    (hk : ∀ k, k < H.next → k ≠ n → k ≠ m → H'.get k = H.get k) : LayH H' base w n m2 (e + 1) (es ++ [[.os m 0 0 w, .v (.bool true)]]) (done ++ [(row, true)]) c := by
  have hbm := h.bm; have hbn := h.bn; have hnn := h.nn; have hmn := h.mn; have hne := h.ne
  refine ⟨hbn, by omega, by omega, hn', by omega, gn, g2, by rw [List.length_append, List.length_append, h.el]; rfl, fun j hj => ?_⟩
  rw [List.length_append] at hj
  have hj' : j < done.length + 1 := hj
  by_cases e1 : j < done.length
  · obtain ⟨m', q1, q2, q3, q4, q5, q6, q7⟩ := h.dn j e1
    have e2 : (done ++ [(row, true)]).getD j noRw = done.getD j noRw := by rw [getD_app1, if_pos e1]
    have e3 : nth [] (es ++ [[AV.os m 0 0 w, .v (.bool true)]]) j = nth [] es j := by rw [nth_app1, if_pos (by rw [h.el]; exact e1)]
    rw [e2, e3]
    exact ⟨m', q1, q2, by omega, q4, by omega, by rw [hk m' q5 q2 q3]; exact q6, q7⟩
  · have e1' : j = done.length := by omega
    subst e1'
    have e2 : (done ++ [(row, true)]).getD done.length noRw = (row, true) := by rw [getD_app1, if_neg (by omega), if_pos rfl]
    have e3 : nth [] (es ++ [[AV.os m 0 0 w, .v (.bool true)]]) done.length = [.os m 0 0 w, .v (.bool true)] := nth_last h.el.symm
    rw [e2, e3]
    exact ⟨m, rfl, by omega, by omega, hbm, by omega, gm, hr⟩

/-- The last row goes on. -/
theorem LayH.on {H H' : AHeap} {base w n m e : Nat} {es : List (List AV)} {done : List Rw} {cur c : List Ce} (h : LayH H base w n m e es done cur) (hnx : H.next ≤ H'.next) (gm : H'.get m = some (cblk 0 (padRow w c)))
    (hk : ∀ k, k < H.next → k ≠ m → H'.get k = H.get k) : LayH H' base w n m e es done c := by
  have hbm := h.bm; have hbn := h.bn; have hnn := h.nn; have hmn := h.mn; have hne := h.ne
  refine ⟨hbn, hbm, by omega, by omega, hne, by rw [hk n hnn hne]; exact h.gn, gm, h.el, fun j hj => ?_⟩
  obtain ⟨m', q1, q2, q3, q4, q5, q6, q7⟩ := h.dn j hj
  exact ⟨m', q1, q2, q3, q4, by omega, by rw [hk m' q5 q3]; exact q6, q7⟩
theorem LayH.lv {H : AHeap} {base w n m e : Nat} {es : List (List AV)} {done : List Rw} {cur : List Ce} (h : LayH H base w n m e es done cur) (hc : cur.length ≤ w) : RowsLv H base (es ++ [[.os m 0 0 w, .v (.bool false)]]) (done ++ [(padRow w cur, false)]) := by
  have sl : ∀ (k : Nat) (r : List Ce), k < H.next → H.get k = some (cblk 0 r) → r.length = w → SlH H 3 (.os k 0 0 w) (cesA r) := fun k r h1 h2 h3 => by
    subst h3
    refine .inr ⟨k, 0, 0, _, by rw [ces_len], h1, h2, rfl, rfl, rfl, by simp, ?_⟩
    rw [List.drop_zero]; exact List.take_of_length_le (Nat.le_refl _)
  refine ⟨by rw [List.length_append, List.length_append, h.el]; rfl, fun j hj => ?_⟩
  rw [List.length_append] at hj
  have hj' : j < done.length + 1 := hj
  by_cases e1 : j < done.length
  · obtain ⟨m', q1, q2, q3, q4, q5, q6, q7⟩ := h.dn j e1
    have e2 : (done ++ [(padRow w cur, false)]).getD j noRw = done.getD j noRw := by rw [getD_app1, if_pos e1]
    have e3 : nth [] (es ++ [[AV.os m 0 0 w, .v (.bool false)]]) j = nth [] es j := by rw [nth_app1, if_pos (by rw [h.el]; exact e1)]
    rw [e2, e3]
    exact ⟨_, q1, sl m' _ q5 q6 q7, fun k ⟨_, _, _, hk⟩ => by cases hk; exact q4⟩
  · have e1' : j = done.length := by omega
    subst e1'
    have e2 : (done ++ [(padRow w cur, false)]).getD done.length noRw = (padRow w cur, false) := by rw [getD_app1, if_neg (by omega), if_pos rfl]
    have e3 : nth [] (es ++ [[AV.os m 0 0 w, .v (.bool false)]]) done.length = [.os m 0 0 w, .v (.bool false)] := nth_last h.el.symm
    rw [e2, e3]
    exact ⟨_, rfl, sl m _ h.mn h.gm (padRow_len hc), fun k ⟨_, _, _, hk⟩ => by cases hk; exact h.bm⟩
theorem padRow_set' {w : Nat} {cur : List Ce} {c : Ce} (h : cur.length < w) : (padRow w cur).set cur.length ⟨c.r, c.w, c.a⟩ = padRow w (cur ++ [c]) := padRow_set rfl h
theorem padRow_set2 {w : Nat} {cur : List Ce} {c d : Ce} (h : cur.length + 1 < w) : ((padRow w cur).set cur.length ⟨c.r, c.w, c.a⟩).set (cur.length + 1) d = padRow w (cur ++ [c, d]) := by
  rw [padRow_set' (by omega), padRow_set (by simp) (by simp; omega)]
  simp
theorem app_row' : appInfo (ELo oc).P 22 = some (48, 32, 2) := by kernel_rfl
section
variable {ys : List (Nat × LRec)} {lo : Nat} {H : AHeap} {A : AV} {l : List Ce} {es : List (List AV)} {ls : List (List Ce)}
theorem Layout_run (hA : SlH H 3 A (cesA l)) (hl : l.length < 2 ^ 40) (w : Int) : CallRo (ELo oc) ys lo 37 [A, .v (.int .i64 w)] H (rwA (layL l w)) := by
  refine WC.pureR rfl fun lo' H' hh => ?_
  have hA' := hA.two (.inr ⟨[], .inr (by simp)⟩) hh
  have hlo := lo_two hh
  have hM := fun ys G (x : Ext H' G) => may_run (ys := ys) (lo := lo') (hA'.ext x) hl w
  by_cases hm : mayL l w
  · simp only [decide_eq_true hm] at hM
    have hm' := hm
    obtain ⟨w2, w3, hg⟩ := hm'
    have hB := fun ys G => rowBlank_own (ys := ys) (lo := lo') (H := G) w (by omega) w3
    have hlay : layL l w = lay w.toNat [] l := if_pos hm
    have hrw : rwA (layL l w) = .sl 2 (rowsA (lay w.toNat [] l)) := by rw [hlay, rwA, if_neg (lay_ne _ _ _)]
    have hall := lay_rows w.toNat (by omega) (by omega) l [] hg trivial (Nat.zero_le _)
    rw [hrw]
    refine zvin Tryz.func37 Tryz.ntmps37 ?_
    repeat' (first
     | refine zka ?_
     | refine zkb ?_
     | (apply RKp.op; ((try simp (disch := (first | omega | exact zX | exact zO | (simp (disch := omega) only [get_set, get_push, next_push, next_set, if_pos', if_neg', if_true, if_false, gn, gm]; done) | fail)) only [len_cellX lo' hA', ix_cellX lo' hA', ld_cellX lo' hA', fa_cellX lo' hA', lf_wX lo' hA', lf_aX lo' hA', lf_rX lo' hA', sl_hiX lo' hA', sl_loX lo' hA', sl_lohiX lo' hA', go_sem, Nat.reduceDiv, Nat.reduceMod, Nat.reduceAdd, Nat.reduceSub, Nat.reduceEqDiff, Nat.reduceLeDiff, Nat.reduceLT, Nat.reduceMul, reduceIte, Nat.reducePow, Int.reduceEq]); exact zL); rfl)
     | (apply RKp.callR; (apply hM <;> (exact zD)); rfl; intro tr htr)
     | (apply RKp.callN; (apply hB <;> (exact zD)); rfl; intro tr htr)
     | refine zkc ?_
     | apply RKg.tt
     | apply RKg.ff
     | refine zkd ?_
     | refine zke ?_
     | refine zkf ?_
     | (refine RKg.split (fun h => ?_) (fun h => ?_) <;> (try rw [h]) <;> (replace h := zB h) <;> (try (exfalso; first | exact h | omega)))
     | apply RK.nil
     | apply V.sq
     | apply V.bl
     | apply V.sc
     | apply V.skip
     | apply V.label
     | apply V.ret
     | apply V.exit
     | apply SeqQ.normal
     | apply SeqQ.ret
     | apply SeqQ.exit
     | apply BlockQ.normal
     | apply BlockQ.ret
     | apply BlockQ.here
     | refine zbt ?_
     | apply LoopS.ret
     | apply LoopS.exit
     | apply LoopF.ret
     | apply LoopF.exit
     | apply V.regK
      | refine zva ?_
     | refine zvb ?_
     | refine zgc ?_
     | refine zvd ?_
     | refine zve ?_
     | (refine zvf (fun h => ?_) (fun h => ?_) <;> (replace h := zB h) <;> (try (exfalso; first | exact h | omega)))
      | (refine zfc Tryz.results37 ?_; (try dsimp only)))
    apply V.lpS [19, 5, 6, 8, 9, 20, 21, 22, 23, 24, 25, 26, 27, 28, 29, 30, 31, 32, 33, 34, 35, 36, 37, 38, 39, 40, 41, 42, 43, 44, 45, 46, 47, 48, 49, 50, 51, 52, 53, 54, 55, 56, 57, 58, 59, 60, 61, 62, 63, 64, 65, 66, 67, 68, 69, 70, 71, 72, 73, 74, 75, 76, 77, 78, 79, 80, 81] (fun k xs H2 => ∃ (i : Nat) (g : _) (n m e L : Nat) (colI : Int) (es' : List (List AV)) (done : List Rw) (cur : List Ce), xs = .v (.int .i64 i) :: .os n e 0 L :: .v (.int .i64 colI) :: g ∧ L = es'.length + 1 ∧ colI = cur.length ∧ k = l.length - i ∧ i ≤ l.length ∧ Ext H' H2 ∧ LayH H2 H'.next w.toNat n m e es' done cur ∧ done ++ lay w.toNat cur (l.drop i) = lay w.toNat [] l ∧ cur.length ≤ w.toNat ∧ done.length ≤ i) l.length
    focus (intro xs; simp only [putMany, set2, Nat.reduceAdd, Nat.reduceDiv, Nat.reduceMod, nth_zero, nth_succ, List.set_cons_zero, List.set_cons_succ]; rfl)
    focus (first | rfl | simp only [readMany, nth_zero, nth_succ, Nat.reduceDiv, Nat.reduceMod])
    · refine ⟨0, _, H'.next + 1, H'.next, 0, 1, 0, [], [], [], rfl, rfl, rfl, rfl, Nat.zero_le _, by exact zX, ⟨by omega, by omega, by (first | omega | (simp only [next_push, next_set, next_empty]; done) | (simp only [next_push, next_set, next_empty]; omega)), by (first | omega | (simp only [next_push, next_set, next_empty]; done) | (simp only [next_push, next_set, next_empty]; omega)), by omega, by simp (disch := (first | omega | exact zX | fail)) only [get_set, get_push, next_push, next_set, if_pos', if_neg', if_true, if_false, reduceIte]; rfl, ?_, rfl, fun j hj => absurd hj (Nat.not_lt_zero _)⟩, rfl, Nat.zero_le _, Nat.zero_le _⟩
      have : padRow w.toNat [] = blanks w.toNat := rfl
      rw [this]; simp (disch := (first | omega | exact zX | fail)) only [get_set, get_push, next_push, next_set, if_pos', if_neg', if_true, if_false, reduceIte]
    · rintro k xs H2 ⟨i, g, n, m, e, L, colI, es', done, cur, rfl, hL, hcol, rfl, hi, hx, hY, hjn, hcl, hdl⟩
      have gn := hY.gn; have gm := hY.gm; have b1 := hY.bn; have b2 := hY.bm; have b3 := hY.nn; have b4 := hY.mn; have b5 := hY.ne; have b6 := hY.el
      have hn2 := hx.next
      have hpl := padRow_len hcl
      have hA2 := hA'.ext hx
      by_cases hlt : i < l.length
      · have hmem : l.getD i zeroC ∈ l := by rw [List.getD_eq_getElem?_getD, List.getElem?_eq_getElem hlt]; exact List.getElem_mem hlt
        have hcc := hg _ hmem
        have hcw := hcc.w
        have hcl' := cellsC_len' hcc
        have hdr : l.drop i = l.getD i zeroC :: l.drop (i + 1) := by
          rw [List.drop_eq_getElem_cons hlt, List.getD_eq_getElem?_getD, List.getElem?_eq_getElem hlt]; rfl
        rw [hdr] at hjn
        have hc1 : cellsC (l.getD i zeroC) = if (l.getD i zeroC).w = 2 then [l.getD i zeroC, ⟨0, 0, (l.getD i zeroC).a⟩] else [l.getD i zeroC] := rfl
        generalize hcv : l.getD i zeroC = c at *
        have ldc : ∀ G, Ext H2 G → primL lo' G (loadA (ELo oc) 52 (ixA A (cesA l) i)) = some (.agg [.v (.int .i32 c.r), .v (.int .i64 c.w), .v (.int .i64 c.a)], G, rdTr A) := fun G hG => by
          rw [ld_cellX lo' hA2 G hG i hlt, hcv]
        have ixc : ∀ G, Ext H2 G → primL lo' G (indexAddrA (ELo oc) 41 A (.v (.int .i64 (i : Int)))) = some (ixA A (cesA l) i, G, rdTr A) := fun G hG => ix_cellX lo' hA2 G hG .i64 i (by omega) (by omega)
        have lnc : ∀ G, Ext H2 G → primL lo' G (builtinA (ELo oc) .len #[41] 3 [A]) = some (.v (.int .i64 l.length), G, rdTr A) := fun G hG => len_cellX lo' hA2 G hG
        subst hL hcol
        have e1 : ((es'.length + 1 : Nat) : Int) - 1 = (es'.length : Int) := by omega
        have e0 : List.take (es'.length + 1) (es' ++ [[AV.os m 0 0 w.toNat, .v (.bool false)]]) = es' ++ [[AV.os m 0 0 w.toNat, .v (.bool false)]] := List.take_of_length_le (by simp)
        have e2 : (es' ++ [[AV.os m 0 0 w.toNat, .v (.bool false)]]).length = es'.length + 1 := by simp
        have e3 : nth [] (es' ++ [[AV.os m 0 0 w.toNat, .v (.bool false)]]) es'.length = [AV.os m 0 0 w.toNat, .v (.bool false)] := nth_last rfl
        by_cases hgt : w.toNat < cur.length + c.w.toNat
        · have hlu : lay w.toNat cur (c :: l.drop (i + 1)) = ((if cur.length < w.toNat then cur ++ [padC] else cur), true) :: lay w.toNat (cellsC c) (l.drop (i + 1)) := by
            conv => lhs; unfold lay
            rw [if_pos hgt]
          rw [hlu] at hjn
          have e4 : ((0 : Int) + 1).toNat = 1 := rfl
          have e11 : Int.toNat 0 = 0 := rfl
          have e5 : (es' ++ [[AV.os m 0 0 w.toNat, .v (.bool false)]]).set es'.length [AV.os m 0 0 w.toNat, .v (.bool true)] = es' ++ [[AV.os m 0 0 w.toNat, .v (.bool true)]] := set_last rfl
          have e6 : List.take (es'.length + 1 + 1) (es' ++ [[AV.os m 0 0 w.toNat, .v (.bool true)]] ++ [[AV.os (H2.next + 1) 0 0 w.toNat, .v (.bool false)]]) = es' ++ [[AV.os m 0 0 w.toNat, .v (.bool true)]] ++ [[AV.os (H2.next + 1) 0 0 w.toNat, .v (.bool false)]] := List.take_of_length_le (by simp)
          have e7 : (es' ++ [[AV.os m 0 0 w.toNat, .v (.bool true)]] ++ [[AV.os (H2.next + 1) 0 0 w.toNat, .v (.bool false)]]).length = es'.length + 1 + 1 := by simp
          have e8 : nth [] (es' ++ [[AV.os m 0 0 w.toNat, .v (.bool true)]] ++ [[AV.os (H2.next + 1) 0 0 w.toNat, .v (.bool false)]]) (es'.length + 1) = [AV.os (H2.next + 1) 0 0 w.toNat, .v (.bool false)] := nth_last (by simp)
          have e9 : (((es'.length + 1 + 1 : Nat) : Int) - 1).toNat = es'.length + 1 := by omega
          have e10 : (blanks w.toNat).length = w.toNat := blanks_len _
          have happ : ∀ (G : AHeap) (k : Nat), G.get n = some ⟨48, 2, e, es' ++ [[AV.os m 0 0 w.toNat, .v (.bool true)]], none⟩ → n < G.next → k = G.next → primL lo' (G.push ⟨48, 2, 0, [[AV.os (H2.next + 1) 0 0 w.toNat, .v (.bool false)]], none⟩) (appendA (ELo oc) 22 (.os n e 0 (es'.length + 1)) (.os k 0 0 1)) = some (.os n (e + 1) 0 (es'.length + 1 + 1), (G.push ⟨48, 2, 0, [[AV.os (H2.next + 1) 0 0 w.toNat, .v (.bool false)]], none⟩).set n ⟨48, 2, e + 1, es' ++ [[AV.os m 0 0 w.toNat, .v (.bool true)]] ++ [[AV.os (H2.next + 1) 0 0 w.toNat, .v (.bool false)]], none⟩, ⟨bitsOf [n, k], 2 ^ n, 0⟩) := fun G k h1 h2 h3 => by
            subst h3
            exact app_one_os (ELo oc) lo' app_row' h1 h2 (by simp) (by omega) (by unfold roomMax; omega) _
          repeat' (first
           | refine zka ?_
           | refine zkb ?_
           | (apply RKp.op; ((try simp (disch := (first | omega | exact zX | exact zO | (simp (disch := omega) only [get_set, get_push, next_push, next_set, if_pos', if_neg', if_true, if_false, gn, gm]; done) | fail)) only [ldc, ixc, lnc, gn, gm, ces_len, ces_set, nth_cesA, hz3, drop3, hpl, List.length_set, e0, e2, e3, Int.toNat_natCast, e1, e4, e5, e6, e7, e8, e9, e10, e11, happ, go_sem, Nat.reduceDiv, Nat.reduceMod, Nat.reduceAdd, Nat.reduceSub, Nat.reduceEqDiff, Nat.reduceLeDiff, Nat.reduceLT, Nat.reduceMul, reduceIte, Nat.reducePow, Int.reduceEq]); exact zL); rfl)
           | (apply RKp.call; (apply Pad_run <;> (exact zD)); rfl)
           | (apply RKp.callN; (apply hB <;> (exact zD)); rfl; intro tr htr)
           | refine zkc ?_
           | apply RKg.tt
           | apply RKg.ff
           | refine zkd ?_
           | refine zke ?_
           | refine zkf ?_
           | (refine RKg.split (fun h => ?_) (fun h => ?_) <;> (try rw [h]) <;> (replace h := zB h) <;> (try (exfalso; first | exact h | omega)))
           | apply RK.nil
           | apply V.sq
           | apply V.bl
           | apply V.sc
           | apply V.skip
           | apply V.label
           | apply V.ret
           | apply V.exit
           | apply SeqQ.normal
           | apply SeqQ.ret
           | apply SeqQ.exit
           | apply BlockQ.normal
           | apply BlockQ.ret
           | apply BlockQ.here
           | refine zbt ?_
           | apply LoopS.ret
           | apply LoopS.exit
           | apply LoopF.ret
           | apply LoopF.exit
           | apply V.regK
            | refine zva ?_
           | refine zvb ?_
           | refine zgc ?_
           | refine zvd ?_
           | refine zve ?_
           | (refine zvf (fun h => ?_) (fun h => ?_) <;> (replace h := zB h) <;> (try (exfalso; first | exact h | omega)))
            | (refine zfc Tryz.results37 ?_; (try dsimp only)))
          all_goals first
            | (exfalso; omega)
            | (have hrow : (if cur.length < w.toNat then cur ++ [padC] else cur) = padRow w.toNat (cur ++ [padC]) := by
                 rw [if_pos (by omega), padRow_full (by rw [List.length_append]; show cur.length + 1 = w.toNat; omega)]
               rw [hrow] at hjn
               refine LoopS.again (l.length - (i + 1)) (by rfl) (by omega) ⟨i + 1, _, n, H2.next + 1, e + 1, es'.length + 1 + 1, _, es' ++ [[AV.os m 0 0 w.toNat, .v (.bool true)]], done ++ [(padRow w.toNat (cur ++ [padC]), true)], cellsC c, rfl, by simp, by omega, rfl, by omega, by exact zX, hY.wrap (by omega) (by (first | omega | (simp only [next_push, next_set, next_empty]; done) | (simp only [next_push, next_set, next_empty]; omega))) (by (first | omega | (simp only [next_push, next_set, next_empty]; done) | (simp only [next_push, next_set, next_empty]; omega))) ?_ ?_ ?_ (padRow_len (by rw [List.length_append]; show cur.length + 1 ≤ w.toNat; omega)) ?_, by rw [List.append_assoc]; exact hjn, by omega, by rw [List.length_append]; show done.length + 1 ≤ i + 1; omega⟩
               · simp (disch := (first | omega | exact zX | fail)) only [get_set, get_push, next_push, next_set, if_pos', if_neg', if_true, if_false, reduceIte]
               · rw [← padRow_set (c := padC) rfl (by omega)]; simp (disch := (first | omega | exact zX | fail)) only [get_set, get_push, next_push, next_set, if_pos', if_neg', if_true, if_false, reduceIte]
               · rw [hc1, if_pos (by assumption), show ([c, ⟨0, 0, c.a⟩] : List Ce) = [] ++ [c, ⟨0, 0, c.a⟩] from rfl, ← padRow_set2 (by simp; omega)]
                 have hb0 : padRow w.toNat [] = blanks w.toNat := rfl
                 rw [hb0, List.length_nil]
                 simp (disch := (first | omega | exact zX | fail)) only [get_set, get_push, next_push, next_set, if_pos', if_neg', if_true, if_false, reduceIte]
               · intro k hk h1 h2
                 simp (disch := omega) only [get_set, get_push, next_push, next_set, if_pos', if_neg'])
            | (have hrow : (if cur.length < w.toNat then cur ++ [padC] else cur) = padRow w.toNat (cur ++ [padC]) := by
                 rw [if_pos (by omega), padRow_full (by rw [List.length_append]; show cur.length + 1 = w.toNat; omega)]
               rw [hrow] at hjn
               refine LoopS.again (l.length - (i + 1)) (by rfl) (by omega) ⟨i + 1, _, n, H2.next + 1, e + 1, es'.length + 1 + 1, _, es' ++ [[AV.os m 0 0 w.toNat, .v (.bool true)]], done ++ [(padRow w.toNat (cur ++ [padC]), true)], cellsC c, rfl, by simp, by omega, rfl, by omega, by exact zX, hY.wrap (by omega) (by (first | omega | (simp only [next_push, next_set, next_empty]; done) | (simp only [next_push, next_set, next_empty]; omega))) (by (first | omega | (simp only [next_push, next_set, next_empty]; done) | (simp only [next_push, next_set, next_empty]; omega))) ?_ ?_ ?_ (padRow_len (by rw [List.length_append]; show cur.length + 1 ≤ w.toNat; omega)) ?_, by rw [List.append_assoc]; exact hjn, by omega, by rw [List.length_append]; show done.length + 1 ≤ i + 1; omega⟩
               · simp (disch := (first | omega | exact zX | fail)) only [get_set, get_push, next_push, next_set, if_pos', if_neg', if_true, if_false, reduceIte]
               · rw [← padRow_set (c := padC) rfl (by omega)]; simp (disch := (first | omega | exact zX | fail)) only [get_set, get_push, next_push, next_set, if_pos', if_neg', if_true, if_false, reduceIte]
               · rw [hc1, if_neg (by assumption), show ([c] : List Ce) = [] ++ [c] from rfl, ← padRow_set' (by simp; omega)]
                 have hb0 : padRow w.toNat [] = blanks w.toNat := rfl
                 rw [hb0, List.length_nil]
                 simp (disch := (first | omega | exact zX | fail)) only [get_set, get_push, next_push, next_set, if_pos', if_neg', if_true, if_false, reduceIte]
               · intro k hk h1 h2
                 simp (disch := omega) only [get_set, get_push, next_push, next_set, if_pos', if_neg'])
            | (have hrow : (if cur.length < w.toNat then cur ++ [padC] else cur) = padRow w.toNat cur := by
                 rw [if_neg (by omega), padRow_full (by omega)]
               rw [hrow] at hjn
               refine LoopS.again (l.length - (i + 1)) (by rfl) (by omega) ⟨i + 1, _, n, H2.next + 1, e + 1, es'.length + 1 + 1, _, es' ++ [[AV.os m 0 0 w.toNat, .v (.bool true)]], done ++ [(padRow w.toNat cur, true)], cellsC c, rfl, by simp, by omega, rfl, by omega, by exact zX, hY.wrap (by omega) (by (first | omega | (simp only [next_push, next_set, next_empty]; done) | (simp only [next_push, next_set, next_empty]; omega))) (by (first | omega | (simp only [next_push, next_set, next_empty]; done) | (simp only [next_push, next_set, next_empty]; omega))) ?_ ?_ ?_ (padRow_len (by skip; omega)) ?_, by rw [List.append_assoc]; exact hjn, by omega, by rw [List.length_append]; show done.length + 1 ≤ i + 1; omega⟩
               · simp (disch := (first | omega | exact zX | fail)) only [get_set, get_push, next_push, next_set, if_pos', if_neg', if_true, if_false, reduceIte]
               · simp (disch := (first | omega | exact zX | fail)) only [get_set, get_push, next_push, next_set, if_pos', if_neg', if_true, if_false, reduceIte]; exact gm
               · rw [hc1, if_pos (by assumption), show ([c, ⟨0, 0, c.a⟩] : List Ce) = [] ++ [c, ⟨0, 0, c.a⟩] from rfl, ← padRow_set2 (by simp; omega)]
                 have hb0 : padRow w.toNat [] = blanks w.toNat := rfl
                 rw [hb0, List.length_nil]
                 simp (disch := (first | omega | exact zX | fail)) only [get_set, get_push, next_push, next_set, if_pos', if_neg', if_true, if_false, reduceIte]
               · intro k hk h1 h2
                 simp (disch := omega) only [get_set, get_push, next_push, next_set, if_pos', if_neg'])
            | (have hrow : (if cur.length < w.toNat then cur ++ [padC] else cur) = padRow w.toNat cur := by
                 rw [if_neg (by omega), padRow_full (by omega)]
               rw [hrow] at hjn
               refine LoopS.again (l.length - (i + 1)) (by rfl) (by omega) ⟨i + 1, _, n, H2.next + 1, e + 1, es'.length + 1 + 1, _, es' ++ [[AV.os m 0 0 w.toNat, .v (.bool true)]], done ++ [(padRow w.toNat cur, true)], cellsC c, rfl, by simp, by omega, rfl, by omega, by exact zX, hY.wrap (by omega) (by (first | omega | (simp only [next_push, next_set, next_empty]; done) | (simp only [next_push, next_set, next_empty]; omega))) (by (first | omega | (simp only [next_push, next_set, next_empty]; done) | (simp only [next_push, next_set, next_empty]; omega))) ?_ ?_ ?_ (padRow_len (by skip; omega)) ?_, by rw [List.append_assoc]; exact hjn, by omega, by rw [List.length_append]; show done.length + 1 ≤ i + 1; omega⟩
               · simp (disch := (first | omega | exact zX | fail)) only [get_set, get_push, next_push, next_set, if_pos', if_neg', if_true, if_false, reduceIte]
               · simp (disch := (first | omega | exact zX | fail)) only [get_set, get_push, next_push, next_set, if_pos', if_neg', if_true, if_false, reduceIte]; exact gm
               · rw [hc1, if_neg (by assumption), show ([c] : List Ce) = [] ++ [c] from rfl, ← padRow_set' (by simp; omega)]
                 have hb0 : padRow w.toNat [] = blanks w.toNat := rfl
                 rw [hb0, List.length_nil]
                 simp (disch := (first | omega | exact zX | fail)) only [get_set, get_push, next_push, next_set, if_pos', if_neg', if_true, if_false, reduceIte]
               · intro k hk h1 h2
                 simp (disch := omega) only [get_set, get_push, next_push, next_set, if_pos', if_neg'])
            | trace_state
        · have happ : True := trivial
          have e4 : ((cur.length : Int) + 1).toNat = cur.length + 1 := by omega
          have hlu : lay w.toNat cur (c :: l.drop (i + 1)) = lay w.toNat (cur ++ cellsC c) (l.drop (i + 1)) := by
            conv => lhs; unfold lay
            rw [if_neg hgt]
          rw [hlu] at hjn
          repeat' (first
           | refine zka ?_
           | refine zkb ?_
           | (apply RKp.op; ((try simp (disch := (first | omega | exact zX | exact zO | (simp (disch := omega) only [get_set, get_push, next_push, next_set, if_pos', if_neg', if_true, if_false, gn, gm]; done) | fail)) only [ldc, ixc, lnc, gn, gm, ces_len, ces_set, nth_cesA, hz3, drop3, hpl, List.length_set, e0, e2, e3, Int.toNat_natCast, e1, e4, go_sem, Nat.reduceDiv, Nat.reduceMod, Nat.reduceAdd, Nat.reduceSub, Nat.reduceEqDiff, Nat.reduceLeDiff, Nat.reduceLT, Nat.reduceMul, reduceIte, Nat.reducePow, Int.reduceEq]); exact zL); rfl)
           | (apply RKp.call; (apply Pad_run <;> (exact zD)); rfl)
           | (apply RKp.callN; (apply hB <;> (exact zD)); rfl; intro tr htr)
           | refine zkc ?_
           | apply RKg.tt
           | apply RKg.ff
           | refine zkd ?_
           | refine zke ?_
           | refine zkf ?_
           | (refine RKg.split (fun h => ?_) (fun h => ?_) <;> (try rw [h]) <;> (replace h := zB h) <;> (try (exfalso; first | exact h | omega)))
           | apply RK.nil
           | apply V.sq
           | apply V.bl
           | apply V.sc
           | apply V.skip
           | apply V.label
           | apply V.ret
           | apply V.exit
           | apply SeqQ.normal
           | apply SeqQ.ret
           | apply SeqQ.exit
           | apply BlockQ.normal
           | apply BlockQ.ret
           | apply BlockQ.here
           | refine zbt ?_
           | apply LoopS.ret
           | apply LoopS.exit
           | apply LoopF.ret
           | apply LoopF.exit
           | apply V.regK
            | refine zva ?_
           | refine zvb ?_
           | refine zgc ?_
           | refine zvd ?_
           | refine zve ?_
           | (refine zvf (fun h => ?_) (fun h => ?_) <;> (replace h := zB h) <;> (try (exfalso; first | exact h | omega)))
            | (refine zfc Tryz.results37 ?_; (try dsimp only)))
          all_goals first
            | (exfalso; omega)
            | (refine LoopS.again (l.length - (i + 1)) (by rfl) (by omega) ⟨i + 1, _, n, m, e, es'.length + 1, _, es', done, cur ++ cellsC c, rfl, rfl, by rw [List.length_append]; omega, rfl, by omega, by exact zX, hY.on (by (first | omega | (simp only [next_push, next_set, next_empty]; done) | (simp only [next_push, next_set, next_empty]; omega))) ?_ ?_, hjn, by rw [List.length_append]; omega, by omega⟩
               · rw [hc1, if_pos h, ← padRow_set2 (by omega)]
                 simp (disch := (first | omega | exact zX | fail)) only [get_set, get_push, next_push, next_set, if_pos', if_neg', if_true, if_false, reduceIte]
               · intro k hk hkm
                 simp (disch := omega) only [get_set, get_push, next_push, next_set, if_pos', if_neg'])
            | (refine LoopS.again (l.length - (i + 1)) (by rfl) (by omega) ⟨i + 1, _, n, m, e, es'.length + 1, _, es', done, cur ++ cellsC c, rfl, rfl, by rw [List.length_append]; omega, rfl, by omega, by exact zX, hY.on (by (first | omega | (simp only [next_push, next_set, next_empty]; done) | (simp only [next_push, next_set, next_empty]; omega))) ?_ ?_, hjn, by rw [List.length_append]; omega, by omega⟩
               · rw [hc1, if_neg h, ← padRow_set' (by omega)]
                 simp (disch := (first | omega | exact zX | fail)) only [get_set, get_push, next_push, next_set, if_pos', if_neg', if_true, if_false, reduceIte]
               · intro k hk hkm
                 simp (disch := omega) only [get_set, get_push, next_push, next_set, if_pos', if_neg'])
            | trace_state
      · have e0 : i = l.length := by omega
        subst e0
        rw [List.drop_length] at hjn
        have hl0 : lay w.toNat cur [] = [(padRow w.toNat cur, false)] := rfl
        rw [hl0] at hjn
        repeat' (first
         | refine zka ?_
         | refine zkb ?_
         | (apply RKp.op; ((try simp (disch := (first | omega | exact zX | exact zO | (simp (disch := omega) only [get_set, get_push, next_push, next_set, if_pos', if_neg', if_true, if_false, gn, gm]; done) | fail)) only [gn, go_sem, Nat.reduceDiv, Nat.reduceMod, Nat.reduceAdd, Nat.reduceSub, Nat.reduceEqDiff, Nat.reduceLeDiff, Nat.reduceLT, Nat.reduceMul, reduceIte, Nat.reducePow, Int.reduceEq]); exact zL); rfl)
         | refine zkc ?_
         | apply RKg.tt
         | apply RKg.ff
         | refine zkd ?_
         | refine zke ?_
         | refine zkf ?_
         | (refine RKg.split (fun h => ?_) (fun h => ?_) <;> (try rw [h]) <;> (replace h := zB h) <;> (try (exfalso; first | exact h | omega)))
         | apply RK.nil
         | apply V.sq
         | apply V.bl
         | apply V.sc
         | apply V.skip
         | apply V.label
         | apply V.ret
         | apply V.exit
         | apply SeqQ.normal
         | apply SeqQ.ret
         | apply SeqQ.exit
         | apply BlockQ.normal
         | apply BlockQ.ret
         | apply BlockQ.here
         | refine zbt ?_
         | apply LoopS.ret
         | apply LoopS.exit
         | apply LoopF.ret
         | apply LoopF.exit
         | apply V.regK
          | refine zva ?_
         | refine zvb ?_
         | refine zgc ?_
         | refine zvd ?_
         | refine zve ?_
         | (refine zvf (fun h => ?_) (fun h => ?_) <;> (replace h := zB h) <;> (try (exfalso; first | exact h | omega)))
          | (refine zfc Tryz.results37 ?_; (try dsimp only)))
        subst hL
        have := frz_rowsLv (lo := lo') (by omega) gn (by rw [hlo]; exact hY.lv hcl) (fun r hr z => by
          rw [hjn] at hr
          have := (hall r hr).1
          rw [z] at this; simp at this; omega) (len := es'.length + 1) (by rw [List.length_append, b6]; rfl)
        rw [hjn] at this
        exact this
  · simp only [decide_eq_false hm] at hM
    have hrw : rwA (layL l w) = nilA := by rw [layL, if_neg hm]; rfl
    rw [hrw]
    refine zvin Tryz.func37 Tryz.ntmps37 ?_
    repeat' (first
     | refine zka ?_
     | refine zkb ?_
     | (apply RKp.op; ((try simp (disch := (first | omega | exact zX | exact zO | (simp (disch := omega) only [get_set, get_push, next_push, next_set, if_pos', if_neg', if_true, if_false, gn, gm]; done) | fail)) only [len_cellX lo' hA', ix_cellX lo' hA', ld_cellX lo' hA', fa_cellX lo' hA', lf_wX lo' hA', lf_aX lo' hA', lf_rX lo' hA', sl_hiX lo' hA', sl_loX lo' hA', sl_lohiX lo' hA', go_sem, Nat.reduceDiv, Nat.reduceMod, Nat.reduceAdd, Nat.reduceSub, Nat.reduceEqDiff, Nat.reduceLeDiff, Nat.reduceLT, Nat.reduceMul, reduceIte, Nat.reducePow, Int.reduceEq]); exact zL); rfl)
     | (apply RKp.callR; (apply hM <;> (exact zD)); rfl; intro tr htr)
     | refine zkc ?_
     | apply RKg.tt
     | apply RKg.ff
     | refine zkd ?_
     | refine zke ?_
     | refine zkf ?_
     | (refine RKg.split (fun h => ?_) (fun h => ?_) <;> (try rw [h]) <;> (replace h := zB h) <;> (try (exfalso; first | exact h | omega)))
     | apply RK.nil
     | apply V.sq
     | apply V.bl
     | apply V.sc
     | apply V.skip
     | apply V.label
     | apply V.ret
     | apply V.exit
     | apply SeqQ.normal
     | apply SeqQ.ret
     | apply SeqQ.exit
     | apply BlockQ.normal
     | apply BlockQ.ret
     | apply BlockQ.here
     | refine zbt ?_
     | apply LoopS.ret
     | apply LoopS.exit
     | apply LoopF.ret
     | apply LoopF.exit
     | apply V.regK
      | refine zva ?_
     | refine zvb ?_
     | refine zgc ?_
     | refine zvd ?_
     | refine zve ?_
     | (refine zvf (fun h => ?_) (fun h => ?_) <;> (replace h := zB h) <;> (try (exfalso; first | exact h | omega)))
      | (refine zfc Tryz.results37 ?_; (try dsimp only)))
    rfl
end
end Go.Am
