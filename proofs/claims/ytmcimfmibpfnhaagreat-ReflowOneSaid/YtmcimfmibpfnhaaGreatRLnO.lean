
/- Lines and offsets of rows: the reference's. -/
import Derived.Test.YtmcimfmibpfnhaaGreatRLnP
import Derived.Test.YtmcimfmibpfnhaaGreatRLnN
import Derived.Test.YtmcimfmibpfnhaaGreatRLnC
set_option linter.all false
set_option linter.deprecated false
namespace Go.Am
variable {oc : Orc} [OrcI oc]
open Go.Proofs
set_option maxRecDepth 8000
set_option maxHeartbeats 8000000
def intE (l : List Nat) : List (List AV) := l.map fun n : Nat => [.v (.int .i64 (n : Int))]
def intA (l : List Nat) : AV := if l = [] then nilA else .sl 1 (intE l)
theorem intE_len (l : List Nat) : (intE l).length = l.length := List.length_map _
theorem flat_intE (l : List Nat) : FlatE (intE l) := FlatE.map (fun c x hx => by rw [List.mem_singleton] at hx; subst hx; rfl) l
theorem intA_Sl (l : List Nat) : Sl 1 (intA l) (intE l) := by
  unfold intA
  split
  · rename_i h; subst h; exact .inr ⟨rfl, .inr rfl⟩
  · exact .inl rfl
theorem intE_add (l : List Nat) (n : Nat) : intE (l ++ [n]) = intE l ++ [[.v (.int .i64 (n : Int))]] := by unfold intE; rw [List.map_append]; rfl
theorem nth_intE (l : List Nat) (i : Nat) (h : i < l.length) : nth [] (intE l) i = [.v (.int .i64 ((l.getD i 0 : Nat) : Int))] := nth_map _ l i 0 h
theorem app_int : appInfo (ELo oc).P 59 = some (3, 8, 1) := by kernel_rfl
theorem own_intA {H : AHeap} {lo base : Nat} {x : AV} {l : List Nat} (ho : OwS H base 3 1 x (intE l)) (h0 : l = [] → x = nilA) (hb : lo ≤ base) : frzR1 H lo x = intA l := by
  by_cases hl : l = []
  · subst hl; rw [h0 rfl]; rfl
  · rcases ho with ⟨h1, _⟩ | ⟨n, e, rfl, h1, h2, h3⟩
    · have := congrArg List.length h1
      rw [intE_len] at this
      exact absurd (List.eq_nil_of_length_eq_zero this) hl
    · rw [frzR1_os H lo (by omega) h3 rfl rfl (by simp) (show 0 < 1 by decide) (flat_intE l)]
      simp [intA, hl]
def lineN (rows : List Rw) (i : Nat) : List Nat := (List.range i).map fun j => (ofN rows j).1
def offN (rows : List Rw) (i : Nat) : List Nat := (List.range i).map fun j => (ofN rows j).2
theorem lineN_S (rows : List Rw) (i : Nat) : lineN rows (i + 1) = lineN rows i ++ [(ofN rows i).1] := by unfold lineN; rw [List.range_succ, List.map_append]; rfl
theorem offN_S (rows : List Rw) (i : Nat) : offN rows (i + 1) = offN rows i ++ [(ofN rows i).2] := by unfold offN; rw [List.range_succ, List.map_append]; rfl
theorem lineN_len (rows : List Rw) (i : Nat) : (lineN rows i).length = i := by unfold lineN; rw [List.length_map, List.length_range]
theorem offN_len (rows : List Rw) (i : Nat) : (offN rows i).length = i := by unfold offN; rw [List.length_map, List.length_range]
theorem lineN_at (rows : List Rw) (i j : Nat) (h : j < i) : (lineN rows i).getD j 0 = (ofN rows j).1 := by
  unfold lineN; rw [List.getD_eq_getElem?_getD, List.getElem?_map, List.getElem?_range h]; rfl
section
variable {ys : List (Nat × LRec)} {lo : Nat} {H : AHeap} {A : AV} {es : List (List AV)} {rows : List Rw}
theorem refOf_run (hA : SlH H 2 A es) (hr : RsP es rows) (hrl : rows.length < 2 ^ 20) : CallRo (ELo oc) ys lo 67 [A] H (.tup [intA (lineN rows rows.length), intA (offN rows rows.length)]) := by
  refine WC.pureR rfl fun lo' H' hh => ?_
  have hA' := hA.two (.inr ⟨[], .inr (by simp)⟩) hh
  have hlo := lo_two hh
  refine zvin Tryz.func67 Tryz.ntmps67 ?_
  repeat' (first
   | refine zka ?_
   | refine zkb ?_
   | (apply RKp.op; ((try simp (disch := (first | omega | exact zX | exact zO | fail)) only [lenR lo' hA' hr, go_sem, Nat.reduceDiv, Nat.reduceMod, Nat.reduceAdd, Nat.reduceSub, Nat.reduceEqDiff, Nat.reduceLeDiff, Nat.reduceLT, Nat.reduceMul, reduceIte, Nat.reducePow, Int.reduceEq]); exact zL); rfl)
   | refine zkc ?_
   | apply RKg.tt
   | apply RKg.ff
   | refine zkd ?_
   | refine zke ?_
   | refine zkf ?_
   | (refine RKg.split (fun h => ?_) (fun h => ?_) <;> (try rw [h]) <;> (replace h := zB h) <;> (try (exfalso; first | exact h | omega)))
   | apply RK.nil
   | apply V.sq
   | apply V.bl
   | apply V.sc
   | apply V.skip
   | apply V.label
   | apply V.ret
   | apply V.exit
   | apply SeqQ.normal
   | apply SeqQ.ret
   | apply SeqQ.exit
   | apply BlockQ.normal
   | apply BlockQ.ret
   | apply BlockQ.here
   | refine zbt ?_
   | apply LoopS.ret
   | apply LoopS.exit
   | apply LoopF.ret
   | apply LoopF.exit
   | apply V.regK
   | refine zvd ?_
   | refine zve ?_
   | (refine zvf (fun h => ?_) (fun h => ?_) <;> (replace h := zB h) <;> (try (exfalso; first | exact h | omega)))
    | (refine zfd Tryz.results67 ?_; (try dsimp only)))
  apply V.lpS [8, 4, 5, 6, 7, 9, 10, 11, 12, 13, 14, 15, 16, 17, 18, 19, 20, 21, 22, 23, 24, 25, 26, 27, 28, 29, 30, 31, 32, 33, 34, 35, 36, 37, 38, 39, 40, 41, 42, 43, 44, 45, 46] (fun k xs H2 => ∃ (i n a : Nat) (x y : AV) (g : _), xs = .v (.int .i64 i) :: x :: y :: .v (.int .i64 n) :: .v (.int .i64 a) :: g ∧ k = rows.length - i ∧ i ≤ rows.length ∧ n = (ofN rows i).1 ∧ a = (ofN rows i).2 ∧ Ext H' H2 ∧ OwS H2 H'.next 3 1 x (intE (lineN rows i)) ∧ OwS H2 H'.next 3 1 y (intE (offN rows i)) ∧ (∀ k, nmO x k → ¬ nmO y k) ∧ (i = 0 → x = nilA ∧ y = nilA)) rows.length
  focus (intro xs; simp only [putMany, set2, Nat.reduceAdd, Nat.reduceDiv, Nat.reduceMod, nth_zero, nth_succ, List.set_cons_zero, List.set_cons_succ]; rfl)
  focus (first | rfl | simp only [readMany, nth_zero, nth_succ, Nat.reduceDiv, Nat.reduceMod])
  · exact ⟨0, 0, 0, _, _, _, rfl, rfl, Nat.zero_le _, rfl, rfl, Ext.refl _, OwS.nil _ _ _ _, OwS.nil _ _ _ _, fun k hk => (by obtain ⟨_, _, _, e⟩ := hk; cases e), fun _ => ⟨rfl, rfl⟩⟩
  · rintro k xs H2 ⟨i, n, a, x, y, g, rfl, rfl, hi, hn, ha, hx, hox, hoy, hd, h0⟩
    have hn2 := hx.next
    by_cases hlt : i < rows.length
    · have hO := ofN_S (rows := rows) (i := i) hlt
      have hbi := ofN_bd rows i (by omega)
      have hsg := fun ys G => refSigns_run (ys := ys) (lo := lo') (H := G) (wr := (rows.getD i noRw).2) (.inl (hr.sl i hlt)) (by have := hr.lt i hlt; omega) (hr.r32 i hlt)
      have hsl := fun G => len_cell lo' (H := G) (.inl (slA_Sl (sigR ((rows.getD i noRw).1, (rows.getD i noRw).2))))
      have h300 := sigR_300 ((rows.getD i noRw).1, (rows.getD i noRw).2)
      have hRow := fun ys G => Row_R (ys := ys) (lo := lo') (H := G) (wr := (rows.getD i noRw).2) (.inl (hr.sl i hlt)) (by have := hr.lt i hlt; omega) (hr.r32 i hlt)
      have hs2 : (sndR (rows.getD i noRw)).2 = (decide (rowG (rows.getD i noRw).1) && (rows.getD i noRw).2) := sndR_2 _ _
      have el : ((lineN rows i).length) = i := lineN_len rows i
      have eo : ((offN rows i).length) = i := offN_len rows i
      obtain ⟨x', H3, tr3, hap1, hox', hnx3, hfr3, hnm3⟩ := hox.push1 (ELo oc) lo' app_int (by omega) (by omega) (by rw [intE_len, el]; unfold roomMax; omega) [.v (.int .i64 (n : Int))]
      have hoy3 : OwS H3 H'.next 3 1 y (intE (offN rows i)) := hoy.onN (by omega) fun k hk => hfr3 k (hoy.nm hk).2 (fun z => hd k z hk)
      obtain ⟨y', H4, tr4, hap2, hoy', hnx4, hfr4, hnm4⟩ := hoy3.push1 (ELo oc) lo' app_int (by omega) (by omega) (by rw [intE_len, eo]; unfold roomMax; omega) [.v (.int .i64 (a : Int))]
      have hd3 : ∀ k, nmO x' k → ¬ nmO y k := fun k hk hk2 => by
        rcases hnm3 k hk with z | z
        · exact hd k z hk2
        · have := (hoy.nm hk2).2; omega
      have hox4 : OwS H4 H'.next 3 1 x' (intE (lineN rows i) ++ [[.v (.int .i64 (n : Int))]]) := hox'.onN (by omega) fun k hk => hfr4 k (hox'.nm hk).2 (hd3 k hk)
      have hd4 : ∀ k, nmO x' k → ¬ nmO y' k := fun k hk hk2 => by
        rcases hnm4 k hk2 with z | z
        · exact hd3 k hk z
        · have := (hox'.nm hk).2; omega
      have hx4 : Ext H' H4 := ⟨by omega, fun k hk => by rw [hfr4 k (by omega) (fun z => by have := (hoy.nm z).1; omega), hfr3 k (by omega) (fun z => by have := (hox.nm z).1; omega), hx.get k hk]⟩
      rw [hn, ← intE_add, ← lineN_S] at hox4
      rw [ha, ← intE_add, ← offN_S] at hoy'
      have lwT := fun G hG => lwR lo' hA' hr G hG i hlt
      by_cases hw : (rows.getD i noRw).2 = true
      · simp only [hw] at lwT
        by_cases hG : rowG (rows.getD i noRw).1
        · simp only [decide_eq_true hG] at hRow
          rw [decide_eq_true hG, hw, Bool.and_true] at hs2
          repeat' (first
           | refine zka ?_
           | refine zkb ?_
           | (apply RKp.op; ((try simp (disch := (first | omega | exact zX | exact zO | fail)) only [lenR lo' hA' hr, ixR lo' hA' hr, ldR lo' hA' hr, faR lo' hA', lwT, hap1, hap2, hsl, Int.toNat_natCast, go_sem, Nat.reduceDiv, Nat.reduceMod, Nat.reduceAdd, Nat.reduceSub, Nat.reduceEqDiff, Nat.reduceLeDiff, Nat.reduceLT, Nat.reduceMul, reduceIte, Nat.reducePow, Int.reduceEq]); exact zL); rfl)
           | (apply RKp.callR; ((first | apply hsg | apply hRow) <;> (exact zD)); rfl; intro tr htr)
           | refine zkc ?_
           | apply RKg.tt
           | apply RKg.ff
           | refine zkd ?_
           | refine zke ?_
           | refine zkf ?_
           | (refine RKg.split (fun h => ?_) (fun h => ?_) <;> (try rw [h]) <;> (replace h := zB h) <;> (try (exfalso; first | exact h | omega)))
           | apply RK.nil
           | apply V.sq
           | apply V.bl
           | apply V.sc
           | apply V.skip
           | apply V.label
           | apply V.ret
           | apply V.exit
           | apply SeqQ.normal
           | apply SeqQ.ret
           | apply SeqQ.exit
           | apply BlockQ.normal
           | apply BlockQ.ret
           | apply BlockQ.here
           | refine zbt ?_
           | apply LoopS.ret
           | apply LoopS.exit
           | apply LoopF.ret
           | apply LoopF.exit
           | apply V.regK
           | refine zvd ?_
           | refine zve ?_
           | (refine zvf (fun h => ?_) (fun h => ?_) <;> (replace h := zB h) <;> (try (exfalso; first | exact h | omega)))
            | (refine zfd Tryz.results67 ?_; (try dsimp only)))
          exact LoopS.again (rows.length - (i + 1)) (by rfl) (by omega) ⟨i + 1, n, a + (sigR ((rows.getD i noRw).1, (rows.getD i noRw).2)).length, x', y', _, rfl, rfl, by omega, by rw [(hO.1 hs2).1, hn], by rw [(hO.1 hs2).2, ha], hx4, hox4, hoy', hd4, fun z => by omega⟩
        · simp only [decide_eq_false hG] at hRow
          rw [decide_eq_false hG, Bool.false_and] at hs2
          repeat' (first
           | refine zka ?_
           | refine zkb ?_
           | (apply RKp.op; ((try simp (disch := (first | omega | exact zX | exact zO | fail)) only [lenR lo' hA' hr, ixR lo' hA' hr, ldR lo' hA' hr, faR lo' hA', lwT, hap1, hap2, hsl, Int.toNat_natCast, go_sem, Nat.reduceDiv, Nat.reduceMod, Nat.reduceAdd, Nat.reduceSub, Nat.reduceEqDiff, Nat.reduceLeDiff, Nat.reduceLT, Nat.reduceMul, reduceIte, Nat.reducePow, Int.reduceEq]); exact zL); rfl)
           | (apply RKp.callR; ((first | apply hsg | apply hRow) <;> (exact zD)); rfl; intro tr htr)
           | refine zkc ?_
           | apply RKg.tt
           | apply RKg.ff
           | refine zkd ?_
           | refine zke ?_
           | refine zkf ?_
           | (refine RKg.split (fun h => ?_) (fun h => ?_) <;> (try rw [h]) <;> (replace h := zB h) <;> (try (exfalso; first | exact h | omega)))
           | apply RK.nil
           | apply V.sq
           | apply V.bl
           | apply V.sc
           | apply V.skip
           | apply V.label
           | apply V.ret
           | apply V.exit
           | apply SeqQ.normal
           | apply SeqQ.ret
           | apply SeqQ.exit
           | apply BlockQ.normal
           | apply BlockQ.ret
           | apply BlockQ.here
           | refine zbt ?_
           | apply LoopS.ret
           | apply LoopS.exit
           | apply LoopF.ret
           | apply LoopF.exit
           | apply V.regK
           | refine zvd ?_
           | refine zve ?_
           | (refine zvf (fun h => ?_) (fun h => ?_) <;> (replace h := zB h) <;> (try (exfalso; first | exact h | omega)))
            | (refine zfd Tryz.results67 ?_; (try dsimp only)))
          exact LoopS.again (rows.length - (i + 1)) (by rfl) (by omega) ⟨i + 1, n + 1, 0, x', y', _, rfl, rfl, by omega, by rw [(hO.2 hs2).1, hn], by rw [(hO.2 hs2).2], hx4, hox4, hoy', hd4, fun z => by omega⟩
      · rw [Bool.not_eq_true] at hw
        rw [hw, Bool.and_false] at hs2
        simp only [hw] at lwT
        repeat' (first
         | refine zka ?_
         | refine zkb ?_
         | (apply RKp.op; ((try simp (disch := (first | omega | exact zX | exact zO | fail)) only [lenR lo' hA' hr, ixR lo' hA' hr, ldR lo' hA' hr, faR lo' hA', lwT, hap1, hap2, hsl, Int.toNat_natCast, go_sem, Nat.reduceDiv, Nat.reduceMod, Nat.reduceAdd, Nat.reduceSub, Nat.reduceEqDiff, Nat.reduceLeDiff, Nat.reduceLT, Nat.reduceMul, reduceIte, Nat.reducePow, Int.reduceEq]); exact zL); rfl)
         | (apply RKp.callR; ((first | apply hsg | apply hRow) <;> (exact zD)); rfl; intro tr htr)
         | refine zkc ?_
         | apply RKg.tt
         | apply RKg.ff
         | refine zkd ?_
         | refine zke ?_
         | refine zkf ?_
         | (refine RKg.split (fun h => ?_) (fun h => ?_) <;> (try rw [h]) <;> (replace h := zB h) <;> (try (exfalso; first | exact h | omega)))
         | apply RK.nil
         | apply V.sq
         | apply V.bl
         | apply V.sc
         | apply V.skip
         | apply V.label
         | apply V.ret
         | apply V.exit
         | apply SeqQ.normal
         | apply SeqQ.ret
         | apply SeqQ.exit
         | apply BlockQ.normal
         | apply BlockQ.ret
         | apply BlockQ.here
         | refine zbt ?_
         | apply LoopS.ret
         | apply LoopS.exit
         | apply LoopF.ret
         | apply LoopF.exit
         | apply V.regK
         | refine zvd ?_
         | refine zve ?_
         | (refine zvf (fun h => ?_) (fun h => ?_) <;> (replace h := zB h) <;> (try (exfalso; first | exact h | omega)))
          | (refine zfd Tryz.results67 ?_; (try dsimp only)))
        exact LoopS.again (rows.length - (i + 1)) (by rfl) (by omega) ⟨i + 1, n + 1, 0, x', y', _, rfl, rfl, by omega, by rw [(hO.2 hs2).1, hn], by rw [(hO.2 hs2).2], hx4, hox4, hoy', hd4, fun z => by omega⟩
    · have e : i = rows.length := by omega
      subst e
      repeat' (first
       | refine zka ?_
       | refine zkb ?_
       | (apply RKp.op; ((try simp (disch := (first | omega | exact zX | exact zO | fail)) only [lenR lo' hA' hr, go_sem, Nat.reduceDiv, Nat.reduceMod, Nat.reduceAdd, Nat.reduceSub, Nat.reduceEqDiff, Nat.reduceLeDiff, Nat.reduceLT, Nat.reduceMul, reduceIte, Nat.reducePow, Int.reduceEq]); exact zL); rfl)
       | refine zkc ?_
       | apply RKg.tt
       | apply RKg.ff
       | refine zkd ?_
       | refine zke ?_
       | refine zkf ?_
       | (refine RKg.split (fun h => ?_) (fun h => ?_) <;> (try rw [h]) <;> (replace h := zB h) <;> (try (exfalso; first | exact h | omega)))
       | apply RK.nil
       | apply V.sq
       | apply V.bl
       | apply V.sc
       | apply V.skip
       | apply V.label
       | apply V.ret
       | apply V.exit
       | apply SeqQ.normal
       | apply SeqQ.ret
       | apply SeqQ.exit
       | apply BlockQ.normal
       | apply BlockQ.ret
       | apply BlockQ.here
       | refine zbt ?_
       | apply LoopS.ret
       | apply LoopS.exit
       | apply LoopF.ret
       | apply LoopF.exit
       | apply V.regK
       | refine zvd ?_
       | refine zve ?_
       | (refine zvf (fun h => ?_) (fun h => ?_) <;> (replace h := zB h) <;> (try (exfalso; first | exact h | omega)))
        | (refine zfd Tryz.results67 ?_; (try dsimp only)))
      rw [frzR_tup, List.map_cons, List.map_cons, List.map_nil]
      have hz : ∀ l : List Nat, l.length = rows.length → l = [] → rows.length = 0 := fun l h1 h2 => by rw [h2] at h1; exact h1.symm
      rw [own_intA hox (fun z => (h0 (hz _ (lineN_len rows _) z)).1) (by omega), own_intA hoy (fun z => (h0 (hz _ (offN_len rows _) z)).2) (by omega)]
end
end Go.Am
