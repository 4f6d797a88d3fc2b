/- Parts of the proof: RLnB RLnC. -/
import Derived.Test.YtmcimfmibpfnhaaGreatRLinU
import Derived.Test.YtmcimfmibpfnhaaGreatRLinC
set_option linter.all false
set_option linter.deprecated false

namespace Go.Am
variable {oc : Orc} [OrcI oc]
open Go.Proofs
set_option maxRecDepth 8000
set_option maxHeartbeats 4000000
section
variable {ys : List (Nat × LRec)} {lo : Nat} {H : AHeap} {A B : AV} {es es' : List (List AV)} {ls ms : List (List Ce)}
end
end Go.Am

namespace Go.Am
variable {oc : Orc} [OrcI oc]
open Go.Proofs
set_option maxRecDepth 8000
set_option maxHeartbeats 4000000

/-- Rows as they came in, of any length. -/
def RsB (es : List (List AV)) (rows : List Rw) : Prop := es.length = rows.length ∧ ∀ j, j < rows.length → nth [] es j = [bOf es j, .v (.bool (rows.getD j noRw).2)] ∧ Sl 3 (bOf es j) (cesA (rows.getD j noRw).1) ∧ (rows.getD j noRw).1.length < 2 ^ 63 ∧ R32 (rows.getD j noRw).1

/-- What the laws take of them. -/
def rowsT (rows : List Rw) : List Rw := (rows.take 14).map fun r => (r.1.take 310, r.2)
theorem rowsT_take {rows : List Rw} {i : Nat} (hi : i < rows.length) (h14 : i < 14) : rowsT (rows.take (i + 1)) = rowsT (rows.take i) ++ [((rows.getD i noRw).1.take 310, (rows.getD i noRw).2)] := by
  have e : (rows.take (i + 1)).take 14 = (rows.take i).take 14 ++ [rows.getD i noRw] := by
    rw [List.take_take, List.take_take, Nat.min_eq_right (by omega), Nat.min_eq_right (by omega), List.take_add_one, List.getElem?_eq_getElem hi, List.getD_eq_getElem?_getD, List.getElem?_eq_getElem hi]; rfl
  unfold rowsT
  rw [e, List.map_append]; rfl
theorem rowsT_14 {rows : List Rw} {i : Nat} (h : rows.length ≤ i ∨ 14 ≤ i) : rowsT (rows.take i) = rowsT rows := by
  unfold rowsT
  rcases h with h | h
  · rw [List.take_of_length_le h]
  · rw [List.take_take, Nat.min_eq_left h]
theorem rowsT_len (rows : List Rw) : (rowsT rows).length ≤ 14 := by
  unfold rowsT
  rw [List.length_map, List.length_take]; omega
theorem flatB_Sl {sz : Nat} {x : AV} {es : List (List AV)} (h : Sl sz x es) : flatB x = true := by
  rcases h with rfl | ⟨_, rfl | rfl⟩ <;> rfl
theorem flat_RsP {es : List (List AV)} {rows : List Rw} (h : RsP es rows) : FlatE es := fun c hc => by
  obtain ⟨j, hj, rfl⟩ := List.mem_iff_getElem.1 hc
  have hj' : j < rows.length := by rw [← h.len]; exact hj
  have e : nth [] es j = es[j] := by rw [nth_getD, List.getD_eq_getElem?_getD, List.getElem?_eq_getElem hj]; rfl
  rw [← e, h.cell j hj']
  intro x hx
  rcases List.mem_cons.1 hx with rfl | hx
  · exact flatB_Sl (h.sl j hj')
  · rw [List.mem_singleton] at hx; subst hx; rfl
section
variable {ys : List (Nat × LRec)} {lo : Nat} {H : AHeap} {A : AV} {es : List (List AV)} {rows : List Rw}
theorem Rows_run (hA : SlH H 2 A es) (hB : RsB es rows) (hlen : es.length < 2 ^ 63) : CallNE (ELo oc) ys lo 23 [A] H fun x G => ∃ es', OwS G H.next 48 2 x es' ∧ RsP es' (rowsT rows) ∧ Ext H G ∧ G.js = H.js := by
  have key := WC.ownNE (ys := ys) (lo := lo) (H := H) (f := 23) (args := [A]) (E := (ELo oc)) (K := fun x bs => ∃ es', RsP es' (rowsT rows) ∧ ((es' = [] ∧ x = (fun _ => nilA) ∧ bs = fun _ => []) ∨ (es' ≠ [] ∧ x = (fun b => .os b 0 0 es'.length) ∧ bs = fun _ => [⟨48, 2, 0, es', none⟩]))) rfl ?_
  · obtain ⟨x, G, tr, h1, h2, x', bs', ⟨es', h3, h4⟩, rfl, rfl⟩ := key
    refine ⟨_, _, tr, h1, h2, es', ?_, h3, pushAll_ext _ _, pushAll_js _ _⟩
    rcases h4 with ⟨h5, rfl, rfl⟩ | ⟨h5, rfl, rfl⟩
    · exact .inl ⟨h5, .inr rfl⟩
    · exact .inr ⟨H.next, 0, rfl, Nat.le_refl _, by show H.next < (H.push _).next; rw [next_push]; omega, by show (H.push _).get H.next = _; rw [get_push, if_pos rfl]⟩
  · intro lo' H' hh
    have hA' := hA.two (.inr ⟨[], .inr List.mem_cons_self⟩) hh
    have hlo := lo_two hh
    obtain ⟨hB1, hB2⟩ := hB
    have lnA : ∀ G, Ext H' G → primL lo' G (builtinA (ELo oc) .len #[22] 3 [A]) = some (.v (.int .i64 rows.length), G, rdTr A) := fun G hG => by
      have := len_SlH (ELo oc) lo' 22 3 (hA'.ext hG) (by kernel_rfl)
      rw [hB1] at this; exact this
    have ixAA : ∀ G, Ext H' G → ∀ i : Nat, i < rows.length → primL lo' G (indexAddrA (ELo oc) 22 A (.v (.int .i64 (i : Int)))) = some (ixA A es i, G, rdTr A) := fun G hG i hi =>
      ix_SlH (ELo oc) lo' 22 .i64 i (hA'.ext hG) (by kernel_rfl) (by omega) (by rw [hB1]; omega)
    have ldA : ∀ G, Ext H' G → ∀ j : Nat, j < rows.length → primL lo' G (loadA (ELo oc) 48 (ixA A es j)) = some (.agg [bOf es j, .v (.bool (rows.getD j noRw).2)], G, rdTr A) := fun G hG j hj => by
      rw [load_SlH (ELo oc) lo' 48 j (hA'.ext hG) (by rw [hB1]; exact hj), (hB2 j hj).1]; rfl
    refine zvin Tryz.func23 Tryz.ntmps23 ?_
    repeat' (first | refine zka ?_ | refine zkb ?_ | (apply RKp.op; ((try simp (disch := (first | omega | exact zX | exact zO | fail)) only [lnA, go_sem, Nat.reduceDiv, Nat.reduceMod, Nat.reduceAdd, Nat.reduceSub, Nat.reduceEqDiff, Nat.reduceLeDiff, Nat.reduceLT, Nat.reduceMul, reduceIte, Nat.reducePow, Int.reduceEq]); exact zL); rfl) | refine zkc ?_ | apply RKg.tt | apply RKg.ff | refine zkd ?_ | refine zke ?_ | refine zkf ?_ | (refine RKg.split (fun h => ?_) (fun h => ?_) <;> (try rw [h]) <;> (replace h := zB h) <;> (try (exfalso; first | exact h | omega))) | apply RK.nil | apply V.sq | apply V.bl | apply V.sc | apply V.skip | apply V.label | apply V.ret | apply V.exit | apply SeqQ.normal | apply SeqQ.ret | apply SeqQ.exit | apply BlockQ.normal | apply BlockQ.ret | apply BlockQ.here | refine zbt ?_ | apply LoopS.ret | apply LoopS.exit | apply LoopF.ret | apply LoopF.exit | apply V.regK | refine zvd ?_ | refine zve ?_ | (refine zvf (fun h => ?_) (fun h => ?_) <;> (replace h := zB h) <;> (try (exfalso; first | exact h | omega))) | (refine zfc Tryz.results23 ?_; (try dsimp only)))
    apply V.lpS [4, 3, 5, 6, 7, 8, 9, 10, 11, 12, 13, 14, 15, 16, 17, 18, 19, 20, 21, 22] (fun k xs H2 => ∃ (i : Nat) (x : AV) (es' : List (List AV)) (g : _), xs = .v (.int .i64 i) :: x :: g ∧ k = rows.length - i ∧ i ≤ rows.length ∧ i ≤ 14 ∧ Ext H' H2 ∧ OwS H2 H'.next 48 2 x es' ∧ RsP es' (rowsT (rows.take i)) ∧ (es' = [] → x = nilA)) rows.length
    focus (intro xs; simp only [putMany, set2, Nat.reduceAdd, Nat.reduceDiv, Nat.reduceMod, nth_zero, nth_succ, List.set_cons_zero, List.set_cons_succ]; rfl)
    focus (first | rfl | simp only [readMany, nth_zero, nth_succ, Nat.reduceDiv, Nat.reduceMod])
    · exact ⟨0, _, [], _, rfl, rfl, Nat.zero_le _, Nat.zero_le _, Ext.refl _, OwS.nil _ _ _ _, RsP.nil, fun _ => rfl⟩
    · rintro k xs H2 ⟨i, x, es', g, rfl, rfl, hi, hi14, hx, ho, hr, h0⟩
      have hn2 := hx.next
      have hel : es'.length ≤ 14 := by rw [hr.len]; exact rowsT_len _
      by_cases hlt : i < rows.length ∧ i < 14
      · obtain ⟨hlt, h14⟩ := hlt
        have hs := rowsT_take hlt h14
        obtain ⟨_, b1, b2, b3⟩ := hB2 i hlt
        have hL4 := fun ys G => law4Row_run (ys := ys) (lo := lo') (H := G) (wr := (rows.getD i noRw).2) (.inl b1) b2
        repeat' (first | refine zka ?_ | refine zkb ?_ | (apply RKp.op; ((try simp (disch := (first | omega | exact zX | exact zO | fail)) only [lnA, ixAA, ldA, Int.toNat_natCast, go_sem, Nat.reduceDiv, Nat.reduceMod, Nat.reduceAdd, Nat.reduceSub, Nat.reduceEqDiff, Nat.reduceLeDiff, Nat.reduceLT, Nat.reduceMul, reduceIte, Nat.reducePow, Int.reduceEq]); exact zL); rfl) | (apply RKp.callRE; (apply hL4 <;> (exact zD)); (intro x; rfl)) | refine zkc ?_ | apply RKg.tt | apply RKg.ff | refine zkd ?_ | refine zke ?_ | refine zkf ?_ | (refine RKg.split (fun h => ?_) (fun h => ?_) <;> (try rw [h]) <;> (replace h := zB h) <;> (try (exfalso; first | exact h | omega))) | apply RK.nil | apply V.sq | apply V.bl | apply V.sc | apply V.skip | apply V.label | apply V.ret | apply V.exit | apply SeqQ.normal | apply SeqQ.ret | apply SeqQ.exit | apply BlockQ.normal | apply BlockQ.ret | apply BlockQ.here | refine zbt ?_ | apply LoopS.ret | apply LoopS.exit | apply LoopF.ret | apply LoopF.exit | apply V.regK | refine zvd ?_ | refine zve ?_ | (refine zvf (fun h => ?_) (fun h => ?_) <;> (replace h := zB h) <;> (try (exfalso; first | exact h | omega))) | (refine zfc Tryz.results23 ?_; (try dsimp only)))
        all_goals first
          | (exfalso; omega)
          | skip
        all_goals
          rintro y tr2 htr2 ⟨C, rfl, hC⟩
          obtain ⟨x', H3, tr3, happ, ho', hnx, hfr⟩ := ho.add1 (ELo oc) lo' app_row' (by omega) (by omega) (by unfold roomMax; omega) [C, .v (.bool (rows.getD i noRw).2)]
          have hx3 : Ext H' H3 := ⟨by omega, fun k hk => by rw [hfr k hk, hx.get k hk]⟩
          have hr' := hr.add (r := ((rows.getD i noRw).1.take 310, (rows.getD i noRw).2)) hC (by rw [List.length_take]; omega) (R32_takeU b3 310)
          rw [← hs] at hr'
          repeat' (first | refine zka ?_ | refine zkb ?_ | (apply RKp.op; ((try simp (disch := (first | omega | exact zX | exact zO | fail)) only [happ, go_sem, Nat.reduceDiv, Nat.reduceMod, Nat.reduceAdd, Nat.reduceSub, Nat.reduceEqDiff, Nat.reduceLeDiff, Nat.reduceLT, Nat.reduceMul, reduceIte, Nat.reducePow, Int.reduceEq]); exact zL); rfl) | refine zkc ?_ | apply RKg.tt | apply RKg.ff | refine zkd ?_ | refine zke ?_ | refine zkf ?_ | (refine RKg.split (fun h => ?_) (fun h => ?_) <;> (try rw [h]) <;> (replace h := zB h) <;> (try (exfalso; first | exact h | omega))) | apply RK.nil | apply V.sq | apply V.bl | apply V.sc | apply V.skip | apply V.label | apply V.ret | apply V.exit | apply SeqQ.normal | apply SeqQ.ret | apply SeqQ.exit | apply BlockQ.normal | apply BlockQ.ret | apply BlockQ.here | refine zbt ?_ | apply LoopS.ret | apply LoopS.exit | apply LoopF.ret | apply LoopF.exit | apply V.regK | refine zvd ?_ | refine zve ?_ | (refine zvf (fun h => ?_) (fun h => ?_) <;> (replace h := zB h) <;> (try (exfalso; first | exact h | omega))) | (refine zfc Tryz.results23 ?_; (try dsimp only)))
          exact LoopS.again (rows.length - (i + 1)) (by rfl) (by omega) ⟨i + 1, x', _, _, rfl, rfl, by omega, by omega, hx3, ho', hr', fun z => by simp at z⟩
      · have e := rowsT_14 (rows := rows) (i := i) (by omega)
        rw [e] at hr
        repeat' (first | refine zka ?_ | refine zkb ?_ | (apply RKp.op; ((try simp (disch := (first | omega | exact zX | exact zO | fail)) only [lnA, go_sem, Nat.reduceDiv, Nat.reduceMod, Nat.reduceAdd, Nat.reduceSub, Nat.reduceEqDiff, Nat.reduceLeDiff, Nat.reduceLT, Nat.reduceMul, reduceIte, Nat.reducePow, Int.reduceEq]); exact zL); rfl) | refine zkc ?_ | apply RKg.tt | apply RKg.ff | refine zkd ?_ | refine zke ?_ | refine zkf ?_ | (refine RKg.split (fun h => ?_) (fun h => ?_) <;> (try rw [h]) <;> (replace h := zB h) <;> (try (exfalso; first | exact h | omega))) | apply RK.nil | apply V.sq | apply V.bl | apply V.sc | apply V.skip | apply V.label | apply V.ret | apply V.exit | apply SeqQ.normal | apply SeqQ.ret | apply SeqQ.exit | apply BlockQ.normal | apply BlockQ.ret | apply BlockQ.here | refine zbt ?_ | apply LoopS.ret | apply LoopS.exit | apply LoopF.ret | apply LoopF.exit | apply V.regK | refine zvd ?_ | refine zve ?_ | (refine zvf (fun h => ?_) (fun h => ?_) <;> (replace h := zB h) <;> (try (exfalso; first | exact h | omega))) | (refine zfc Tryz.results23 ?_; (try dsimp only)))
        all_goals first
          | (exfalso; omega)
          | skip
        all_goals
          by_cases hne : es' = []
          · rw [h0 hne]
            exact ⟨fun _ => nilA, fun _ => [], hands_flat rfl, es', hr, .inl ⟨hne, rfl, rfl⟩⟩
          · rcases ho with ⟨z, _⟩ | ⟨n, e1, rfl, q1, q2, q3⟩
            · exact absurd z hne
            · exact ⟨fun b => .os b 0 0 es'.length, fun _ => [⟨48, 2, 0, es', none⟩], hands_os (b := ⟨48, 2, e1, es', none⟩) (by omega) q3 rfl (flat_RsP hr), es', hr, .inr ⟨hne, rfl, rfl⟩⟩
end
end Go.Am
