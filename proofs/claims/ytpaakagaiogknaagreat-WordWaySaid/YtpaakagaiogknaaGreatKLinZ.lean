
/- Lines of the draws: the contract. -/
import Derived.Test.YtpaakagaiogknaaGreatKLinY
set_option linter.all false
set_option linter.deprecated false
namespace Go.Am
variable {oc : Orc} [OrcI oc]
open Go.Proofs
set_option maxRecDepth 8000
set_option maxHeartbeats 4000000
theorem LsB.r32 {es : List (List AV)} {ls : List (List Ce)} (h : LsB es ls) : ∀ l ∈ linesL ls, R32 l := fun l hl => by
  obtain ⟨h1, _⟩ := List.mem_filter.1 hl
  obtain ⟨m, hm, rfl⟩ := List.mem_map.1 h1
  obtain ⟨j, hj, rfl⟩ := List.mem_iff_getElem.1 (List.mem_of_mem_take hm)
  have := (h.2 j hj).2.2.2
  rw [List.getD_eq_getElem?_getD, List.getElem?_eq_getElem hj] at this
  exact R32_takeU this 40
theorem take_min40 (l : List Ce) : l.take (min l.length 40) = l.take 40 := by
  rw [Nat.min_def]; split
  · rw [List.take_length, List.take_of_length_le (by omega)]
  · rfl
section
variable {ys : List (Nat × LRec)} {lo : Nat} {H : AHeap} {A : AV} {es : List (List AV)} {ls : List (List Ce)}
theorem Lines_run (hA : SlH H 1 A es) (hB : LsB es ls) (hlen : es.length < 2 ^ 63) : CallRoE (ELo oc) ys lo 9 [A] H fun x => ∃ es', Sl 1 x es' ∧ LsP es' (linesL ls) := by
  refine WC.pureE rfl fun lo' H' hh => ?_
  have hA' := hA.two (.inr ⟨[], .inr (by simp)⟩) hh
  have hlo := lo_two hh
  have hB32 := hB.r32
  obtain ⟨hB1, hB2⟩ := hB
  have lnA : ∀ G, Ext H' G → primL lo' G (builtinA (ELo oc) .len #[22] 3 [A]) = some (.v (.int .i64 ls.length), G, rdTr A) := fun G hG => by
    have := len_SlH (ELo oc) lo' 22 3 (hA'.ext hG) (by kernel_rfl)
    rw [hB1] at this; exact this
  have ixAA : ∀ G, Ext H' G → ∀ i : Nat, i < ls.length → primL lo' G (indexAddrA (ELo oc) 22 A (.v (.int .i64 (i : Int)))) = some (ixA A es i, G, rdTr A) := fun G hG i hi =>
    ix_SlH (ELo oc) lo' 22 .i64 i (hA'.ext hG) (by kernel_rfl) (by omega) (by rw [hB1]; omega)
  have ldA : ∀ G, Ext H' G → ∀ j : Nat, j < ls.length → primL lo' G (loadA (ELo oc) 33 (ixA A es j)) = some (bOf es j, G, rdTr A) := fun G hG j hj => by
    rw [load_SlH (ELo oc) lo' 33 j (hA'.ext hG) (by rw [hB1]; exact hj), (hB2 j hj).1]; rfl
  refine zvin Tryz.func9 Tryz.ntmps9 ?_
  repeat' (first | refine zka ?_ | refine zkb ?_ | (apply RKp.op; ((try simp (disch := (first | omega | exact zX | exact zO | fail)) only [lnA, go_sem, Nat.reduceDiv, Nat.reduceMod, Nat.reduceAdd, Nat.reduceSub, Nat.reduceEqDiff, Nat.reduceLeDiff, Nat.reduceLT, Nat.reduceMul, reduceIte, Nat.reducePow, Int.reduceEq]); exact zL); rfl) | refine zkc ?_ | apply RKg.tt | apply RKg.ff | refine zkd ?_ | refine zke ?_ | refine zkf ?_ | (refine RKg.split (fun h => ?_) (fun h => ?_) <;> (try rw [h]) <;> (replace h := zB h) <;> (try (exfalso; first | exact h | omega))) | apply RK.nil | apply V.sq | apply V.bl | apply V.sc | apply V.skip | apply V.label | apply V.ret | apply V.exit | apply SeqQ.normal | apply SeqQ.ret | apply SeqQ.exit | apply BlockQ.normal | apply BlockQ.ret | apply BlockQ.here | refine zbt ?_ | apply LoopS.ret | apply LoopS.exit | apply LoopF.ret | apply LoopF.exit | apply V.regK | refine zva ?_ | refine zvb ?_ | refine zgc ?_ | refine zvd ?_ | refine zve ?_ | (refine zvf (fun h => ?_) (fun h => ?_) <;> (replace h := zB h) <;> (try (exfalso; first | exact h | omega))) | (refine zfc Tryz.results9 ?_; (try dsimp only)))
  apply V.lpS [4, 3, 5, 6, 7, 8, 9, 10, 11, 12, 13, 14, 15, 16, 17, 18, 19, 20, 21, 22, 23, 24, 25, 26, 27, 28, 29, 30, 31, 32, 33] (fun k xs H2 => ∃ (i : Nat) (x : AV) (es' : List (List AV)) (g : _), xs = .v (.int .i64 i) :: x :: g ∧ k = ls.length - i ∧ i ≤ ls.length ∧ i ≤ 10 ∧ Ext H' H2 ∧ OwS H2 H'.next 33 1 x es' ∧ LinesLv H2 lo' x es' (linesL (ls.take i))) ls.length
  focus (intro xs; simp only [putMany, set2, Nat.reduceAdd, Nat.reduceDiv, Nat.reduceMod, nth_zero, nth_succ, List.set_cons_zero, List.set_cons_succ]; rfl)
  focus (first | rfl | simp only [readMany, nth_zero, nth_succ, Nat.reduceDiv, Nat.reduceMod])
  · exact ⟨0, _, [], _, rfl, rfl, Nat.zero_le _, Nat.zero_le _, Ext.refl _, OwS.nil _ _ _ _, LinesLv.nil _ _ _⟩
  · rintro k xs H2 ⟨i, x, es', g, rfl, rfl, hi, hi10, hx, ho, hv⟩
    have hn2 := hx.next
    have hel : es'.length ≤ 10 := by rw [hv.1]; exact linesL_len _
    by_cases hlt : i < ls.length ∧ i < 10
    · obtain ⟨hlt, h10⟩ := hlt
      have hlt' : (i : Int) < ls.length := by omega
      have hs := linesL_take hlt h10
      obtain ⟨_, b1, b2, b3⟩ := hB2 i hlt
      have hc1 := cut_Sl b1 (min (ls.getD i []).length 40)
      have hml : ((ls.getD i []).take (min (ls.getD i []).length 40)) = (ls.getD i []).take 40 := take_min40 _
      have lnl := fun G => len_cell lo' (H := G) (l := ls.getD i []) (.inl b1)
      have slh := fun G => sl_hi lo' (H := G) (l := ls.getD i []) (.inl b1)
      rw [hml] at hc1
      have h32 := R32_takeU b3 40
      have hl40 : ((ls.getD i []).take 40).length ≤ 40 := by rw [List.length_take]; omega
      have hmi : (min ((ls.getD i []).length : Int) 40).toNat = min (ls.getD i []).length 40 := by omega
      generalize (ls.getD i []).take 40 = c at *
      generalize hC : cutA (bOf es i) 0 (min (ls.getD i []).length 40) = C at *
      have hLi := fun ys G => refLine_run (ys := ys) (lo := lo') (H := G) (.inl hc1) (by omega) h32
      by_cases hg : lineG c
      · simp only [decide_eq_true hg] at hLi
        rw [if_pos hg] at hs
        by_cases hc0 : c = []
        · subst hc0
          have hap0 : ∀ G, primL lo' G (appendA (ELo oc) 33 (.v (.slice none 0 0)) C) = some (.v (.slice none 0 0), G, rdTr C) := fun G => append_new0 (ELo oc) lo' (.inr rfl) app_cell (.inl hc1)
          obtain ⟨x', H3, tr3, happ, ho', hnx, hfr, hjs, hnm⟩ := (ho.push ⟨33, 1, 0, [[.v (.slice none 0 0)]], none⟩).addN (ELo oc) lo' app_line (y := .os H2.next 0 0 1) (new := [[.v (.slice none 0 0)]]) (.inr ⟨H2.next, 0, 0, _, rfl, by rw [next_push]; omega, by rw [get_push, if_pos rfl], rfl, rfl, rfl, by simp, rfl⟩) (fun k hk hk2 => by
            obtain ⟨_, _, _, e⟩ := hk2
            cases e
            have := ho.nm hk; omega) (by omega) (by (first | omega | (simp only [next_push, next_set, next_empty]; done) | (simp only [next_push, next_set, next_empty]; omega))) (by simp only [List.length_singleton]; unfold roomMax; omega)
          rw [next_push] at hnx hnm
          have hx3 : Ext H' H3 := ⟨by omega, fun k hk => by rw [hfr k (by rw [next_push]; omega) (fun z => by have := ho.nm z; omega), get_push, if_neg (by omega), hx.get k hk]⟩
          have hv' : LinesLv H3 lo' x' (es' ++ [[.v (.slice none 0 0)]]) (linesL (ls.take (i + 1))) := by
            rw [hs]
            exact (hv.on (H' := H3) (by omega) (fun k hk hk2 => by rw [hfr k (by rw [next_push]; omega) hk2, get_push, if_neg (by omega)]) (fun k hk => by rcases hnm k hk with q | q; exact .inl q; exact .inr (by omega))).add (.inl (.inr ⟨rfl, .inr rfl⟩)) (fun k hk => by obtain ⟨_, _, _, e⟩ := hk; cases e)
          repeat' (first | refine zka ?_ | refine zkb ?_ | (apply RKp.op; ((try simp (disch := (first | omega | exact zX | exact zO | fail)) only [lnA, ixAA, ldA, lnl, slh, hmi, hC, Int.toNat_natCast, hap0, happ, go_sem, Nat.reduceDiv, Nat.reduceMod, Nat.reduceAdd, Nat.reduceSub, Nat.reduceEqDiff, Nat.reduceLeDiff, Nat.reduceLT, Nat.reduceMul, reduceIte, Nat.reducePow, Int.reduceEq]); exact zL); rfl) | (apply RKp.callR; (apply hLi <;> (exact zD)); rfl; intro tr htr) | refine zkc ?_ | apply RKg.tt | apply RKg.ff | refine zkd ?_ | refine zke ?_ | refine zkf ?_ | (refine RKg.split (fun h => ?_) (fun h => ?_) <;> (try rw [h]) <;> (replace h := zB h) <;> (try (exfalso; first | exact h | omega))) | apply RK.nil | apply V.sq | apply V.bl | apply V.sc | apply V.skip | apply V.label | apply V.ret | apply V.exit | apply SeqQ.normal | apply SeqQ.ret | apply SeqQ.exit | apply BlockQ.normal | apply BlockQ.ret | apply BlockQ.here | refine zbt ?_ | apply LoopS.ret | apply LoopS.exit | apply LoopF.ret | apply LoopF.exit | apply V.regK | refine zva ?_ | refine zvb ?_ | refine zgc ?_ | refine zvd ?_ | refine zve ?_ | (refine zvf (fun h => ?_) (fun h => ?_) <;> (replace h := zB h) <;> (try (exfalso; first | exact h | omega))) | (refine zfc Tryz.results9 ?_; (try dsimp only)))
          all_goals first
            | (exfalso; omega)
            | exact LoopS.again (ls.length - (i + 1)) (by rfl) (by omega) ⟨i + 1, x', _, _, rfl, rfl, by omega, by omega, hx3, ho', hv'⟩
            | trace_state
        · have hap1 : primL lo' H2 (appendA (ELo oc) 33 (.v (.slice none 0 0)) C) = some (.os H2.next 0 0 c.length, H2.push (cblk 0 c), ⟨(rdTr C).rd, 2 ^ H2.next, 0⟩) := by
            have := append_new (ELo oc) lo' (H := H2) (t := 33) (s := .v (.slice none 0 0)) (.inr rfl) app_cell (.inl hc1) (ces_ne hc0) (by rw [ces_len]; unfold roomMax; omega)
            rw [ces_len] at this; exact this
          obtain ⟨x', H3, tr3, happ, ho', hnx, hfr, hjs, hnm⟩ := ((ho.push (cblk 0 c)).push ⟨33, 1, 0, [[.os H2.next 0 0 c.length]], none⟩).addN (ELo oc) lo' app_line (y := .os (H2.next + 1) 0 0 1) (new := [[.os H2.next 0 0 c.length]]) (.inr ⟨H2.next + 1, 0, 0, _, rfl, by rw [next_push, next_push]; omega, by rw [get_push, if_pos (by rw [next_push])], rfl, rfl, rfl, by simp, rfl⟩) (fun k hk hk2 => by
            obtain ⟨_, _, _, e⟩ := hk2
            cases e
            have := ho.nm hk; omega) (by omega) (by (first | omega | (simp only [next_push, next_set, next_empty]; done) | (simp only [next_push, next_set, next_empty]; omega))) (by simp only [List.length_singleton]; unfold roomMax; omega)
          rw [next_push, next_push] at hnx hnm
          have hx3 : Ext H' H3 := ⟨by omega, fun k hk => by rw [hfr k (by rw [next_push, next_push]; omega) (fun z => by have := ho.nm z; omega), get_push, if_neg (by rw [next_push]; omega), get_push, if_neg (by omega), hx.get k hk]⟩
          have hC3 : SlH H3 3 (.os H2.next 0 0 c.length) (cesA c) := .inr ⟨H2.next, 0, 0, _, by rw [ces_len], by omega, by rw [hfr _ (by rw [next_push, next_push]; omega) (fun z => by have := ho.nm z; omega), get_push, if_neg (by rw [next_push]; omega), get_push, if_pos rfl], rfl, rfl, rfl, by simp, by rw [List.drop_zero]; exact List.take_of_length_le (Nat.le_refl _)⟩
          have hv' : LinesLv H3 lo' x' (es' ++ [[.os H2.next 0 0 c.length]]) (linesL (ls.take (i + 1))) := by
            rw [hs]
            exact (hv.on (H' := H3) (by omega) (fun k hk hk2 => by rw [hfr k (by rw [next_push, next_push]; omega) hk2, get_push, if_neg (by rw [next_push]; omega), get_push, if_neg (by omega)]) (fun k hk => by rcases hnm k hk with q | q; exact .inl q; exact .inr (by omega))).add hC3 (fun k hk => by
              obtain ⟨_, _, _, e⟩ := hk
              cases e
              exact ⟨by omega, fun z => by
                rcases hnm _ z with q | q
                · have := ho.nm q; omega
                · omega⟩)
          repeat' (first | refine zka ?_ | refine zkb ?_ | (apply RKp.op; ((try simp (disch := (first | omega | exact zX | exact zO | fail)) only [lnA, ixAA, ldA, lnl, slh, hmi, hC, Int.toNat_natCast, hap1, happ, go_sem, Nat.reduceDiv, Nat.reduceMod, Nat.reduceAdd, Nat.reduceSub, Nat.reduceEqDiff, Nat.reduceLeDiff, Nat.reduceLT, Nat.reduceMul, reduceIte, Nat.reducePow, Int.reduceEq]); exact zL); rfl) | (apply RKp.callR; (apply hLi <;> (exact zD)); rfl; intro tr htr) | refine zkc ?_ | apply RKg.tt | apply RKg.ff | refine zkd ?_ | refine zke ?_ | refine zkf ?_ | (refine RKg.split (fun h => ?_) (fun h => ?_) <;> (try rw [h]) <;> (replace h := zB h) <;> (try (exfalso; first | exact h | omega))) | apply RK.nil | apply V.sq | apply V.bl | apply V.sc | apply V.skip | apply V.label | apply V.ret | apply V.exit | apply SeqQ.normal | apply SeqQ.ret | apply SeqQ.exit | apply BlockQ.normal | apply BlockQ.ret | apply BlockQ.here | refine zbt ?_ | apply LoopS.ret | apply LoopS.exit | apply LoopF.ret | apply LoopF.exit | apply V.regK | refine zva ?_ | refine zvb ?_ | refine zgc ?_ | refine zvd ?_ | refine zve ?_ | (refine zvf (fun h => ?_) (fun h => ?_) <;> (replace h := zB h) <;> (try (exfalso; first | exact h | omega))) | (refine zfc Tryz.results9 ?_; (try dsimp only)))
          all_goals first
            | (exfalso; omega)
            | exact LoopS.again (ls.length - (i + 1)) (by rfl) (by omega) ⟨i + 1, x', _, _, rfl, rfl, by omega, by omega, hx3, ho', hv'⟩
            | trace_state
      · simp only [decide_eq_false hg] at hLi
        rw [if_neg hg, List.append_nil] at hs
        repeat' (first | refine zka ?_ | refine zkb ?_ | (apply RKp.op; ((try simp (disch := (first | omega | exact zX | exact zO | fail)) only [lnA, ixAA, ldA, lnl, slh, hmi, hC, Int.toNat_natCast, go_sem, Nat.reduceDiv, Nat.reduceMod, Nat.reduceAdd, Nat.reduceSub, Nat.reduceEqDiff, Nat.reduceLeDiff, Nat.reduceLT, Nat.reduceMul, reduceIte, Nat.reducePow, Int.reduceEq]); exact zL); rfl) | (apply RKp.callR; (apply hLi <;> (exact zD)); rfl; intro tr htr) | refine zkc ?_ | apply RKg.tt | apply RKg.ff | refine zkd ?_ | refine zke ?_ | refine zkf ?_ | (refine RKg.split (fun h => ?_) (fun h => ?_) <;> (try rw [h]) <;> (replace h := zB h) <;> (try (exfalso; first | exact h | omega))) | apply RK.nil | apply V.sq | apply V.bl | apply V.sc | apply V.skip | apply V.label | apply V.ret | apply V.exit | apply SeqQ.normal | apply SeqQ.ret | apply SeqQ.exit | apply BlockQ.normal | apply BlockQ.ret | apply BlockQ.here | refine zbt ?_ | apply LoopS.ret | apply LoopS.exit | apply LoopF.ret | apply LoopF.exit | apply V.regK | refine zva ?_ | refine zvb ?_ | refine zgc ?_ | refine zvd ?_ | refine zve ?_ | (refine zvf (fun h => ?_) (fun h => ?_) <;> (replace h := zB h) <;> (try (exfalso; first | exact h | omega))) | (refine zfc Tryz.results9 ?_; (try dsimp only)))
        all_goals first
          | (exfalso; omega)
          | exact LoopS.again (ls.length - (i + 1)) (by rfl) (by omega) ⟨i + 1, x, es', _, rfl, rfl, by omega, by omega, hx, ho, by rw [hs]; exact hv⟩
          | trace_state
    · have e := linesL_10 (ls := ls) (i := i) (by omega)
      rw [e] at hv
      repeat' (first | refine zka ?_ | refine zkb ?_ | (apply RKp.op; ((try simp (disch := (first | omega | exact zX | exact zO | fail)) only [lnA, go_sem, Nat.reduceDiv, Nat.reduceMod, Nat.reduceAdd, Nat.reduceSub, Nat.reduceEqDiff, Nat.reduceLeDiff, Nat.reduceLT, Nat.reduceMul, reduceIte, Nat.reducePow, Int.reduceEq]); exact zL); rfl) | refine zkc ?_ | apply RKg.tt | apply RKg.ff | refine zkd ?_ | refine zke ?_ | refine zkf ?_ | (refine RKg.split (fun h => ?_) (fun h => ?_) <;> (try rw [h]) <;> (replace h := zB h) <;> (try (exfalso; first | exact h | omega))) | apply RK.nil | apply V.sq | apply V.bl | apply V.sc | apply V.skip | apply V.label | apply V.ret | apply V.exit | apply SeqQ.normal | apply SeqQ.ret | apply SeqQ.exit | apply BlockQ.normal | apply BlockQ.ret | apply BlockQ.here | refine zbt ?_ | apply LoopS.ret | apply LoopS.exit | apply LoopF.ret | apply LoopF.exit | apply V.regK | refine zva ?_ | refine zvb ?_ | refine zgc ?_ | refine zvd ?_ | refine zve ?_ | (refine zvf (fun h => ?_) (fun h => ?_) <;> (replace h := zB h) <;> (try (exfalso; first | exact h | omega))) | (refine zfc Tryz.results9 ?_; (try dsimp only)))
      all_goals first
        | (exfalso; omega)
        | exact frz_lines ho hv (by omega) (fun l hl => ⟨by have := (linesL_G l hl).2; omega, hB32 l hl⟩)
        | trace_state
end
end Go.Am
