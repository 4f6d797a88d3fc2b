
/- Lines: gone through, joined. -/
import Derived.Test.YtmcimfmibpfnhaaGreatRLinB
set_option linter.all false
set_option linter.deprecated false
namespace Go.Am
variable {oc : Orc} [OrcI oc]
open Go.Proofs
set_option maxRecDepth 8000
set_option maxHeartbeats 4000000
abbrev rwsBlk (A : AV) : Blk := ⟨22, 1, 0, [[A]], none⟩
section
variable {ys : List (Nat × LRec)} {lo : Nat} {H : AHeap} {A : AV} {es : List (List AV)} {rows : List Rw}
theorem Each_run (hA : SlH H 2 A es) : CallN (ELo oc) ys lo 35 [A] H (.fn 73 [.op H.next 0 0 0]) (H.push (rwsBlk A)) := by
  refine WC.ownN (x := fun b => .fn 73 [.op b 0 0 0]) (bs := fun _ => [rwsBlk A]) rfl fun lo' H' hh => ?_
  have hA' := hA.two (.inr ⟨[], .inr List.mem_cons_self⟩) hh
  have hlo := lo_two hh
  have hc := cells_SlH hA'
  refine zvin Tryz.func35 Tryz.ntmps35 ?_
  repeat' (first | refine zka ?_ | refine zkb ?_ | (apply RKp.op; ((try simp (disch := (first | omega | exact zX | exact zO | fail)) only [hc, go_sem, Nat.reduceDiv, Nat.reduceMod, Nat.reduceAdd, Nat.reduceSub, Nat.reduceEqDiff, Nat.reduceLeDiff, Nat.reduceLT, Nat.reduceMul, reduceIte, Nat.reducePow, Int.reduceEq]); exact zL); rfl) | refine zkc ?_ | apply RKg.tt | apply RKg.ff | refine zkd ?_ | refine zke ?_ | refine zkf ?_ | (refine RKg.split (fun h => ?_) (fun h => ?_) <;> (try rw [h]) <;> (replace h := zB h) <;> (try (exfalso; first | exact h | omega))) | apply RK.nil | apply V.sq | apply V.bl | apply V.sc | apply V.skip | apply V.label | apply V.ret | apply V.exit | apply SeqQ.normal | apply SeqQ.ret | apply SeqQ.exit | apply BlockQ.normal | apply BlockQ.ret | apply BlockQ.here | refine zbt ?_ | apply LoopS.ret | apply LoopS.exit | apply LoopF.ret | apply LoopF.exit | apply V.regK | refine zvd ?_ | refine zve ?_ | (refine zvf (fun h => ?_) (fun h => ?_) <;> (replace h := zB h) <;> (try (exfalso; first | exact h | omega))) | (refine zfc Tryz.results35 ?_; (try dsimp only)))
  exact hands_fn1 (by omega) (by simp (disch := (first | omega | exact zX | fail)) only [get_set, get_push, next_push, next_set, if_pos', if_neg', if_true, if_false, reduceIte]) fun m => renC_SlH hA' hlo m _
theorem Each1_wc {k b : Nat} (I : Nat → AHeap → Prop) (J : AHeap → Prop) (hr : RsP es rows) (hrl : rows.length < 2 ^ 20)
    (hI : ∀ i G, I i G → G.get b = some (rwsBlk A) ∧ b < G.next ∧ SlH G 2 A es ∧ lo ≤ G.next)
    (hst : ∀ i G G', I i G → ExJ G G' → I i G')
    (yy : ∀ (i : Nat) G x, i < (joinL rows).length → I i G → Sl 3 x (cesA ((joinL rows).getD i [])) → YR (ELo oc) ys lo k [.v (.int .i64 (i : Int)), x] G fun r G' => (r = .v (.bool true) ∧ I (i + 1) G') ∨ (r = .v (.bool false) ∧ J G'))
    (h0 : I 0 H) : WC (ELo oc) ys lo 73 [.yl k, .op b 0 0 0] H fun _ G => I (joinL rows).length G ∨ J G := by
  obtain ⟨a1, a2, a3, a4⟩ := hI 0 H h0
  refine zvin Tryz.func73 Tryz.ntmps73 ?_
  repeat' (first | refine zka ?_ | refine zkb ?_ | (apply RKp.op; ((try simp (disch := (first | omega | exact zX | exact zO | fail)) only [a1, lenR lo a3 hr, go_sem, Nat.reduceDiv, Nat.reduceMod, Nat.reduceAdd, Nat.reduceSub, Nat.reduceEqDiff, Nat.reduceLeDiff, Nat.reduceLT, Nat.reduceMul, reduceIte, Nat.reducePow, Int.reduceEq]); exact zL); rfl) | refine zkc ?_ | apply RKg.tt | apply RKg.ff | refine zkd ?_ | refine zke ?_ | refine zkf ?_ | (refine RKg.split (fun h => ?_) (fun h => ?_) <;> (try rw [h]) <;> (replace h := zB h) <;> (try (exfalso; first | exact h | omega))) | apply RK.nil | apply V.sq | apply V.bl | apply V.sc | apply V.skip | apply V.label | apply V.ret | apply V.exit | apply SeqQ.normal | apply SeqQ.ret | apply SeqQ.exit | apply BlockQ.normal | apply BlockQ.ret | apply BlockQ.here | refine zbt ?_ | apply LoopS.ret | apply LoopS.exit | apply LoopF.ret | apply LoopF.exit | apply V.regK | refine zvd ?_ | refine zve ?_ | (refine zvf (fun h => ?_) (fun h => ?_) <;> (replace h := zB h) <;> (try (exfalso; first | exact h | omega))) | (refine zfa Tryz.results73 ?_; (try dsimp only)) | (refine zfb Tryz.results73 ?_; (try dsimp only)))
  apply V.lpS [9, 3, 4, 5, 6, 10, 11, 12, 13, 14, 15, 16, 17, 18, 19, 20, 21, 22, 23, 24, 25, 26, 27, 28, 29, 30, 31, 32, 33, 34, 35, 36, 37, 38] (fun m xs H2 => ∃ (i n : Nat) (x : AV) (g : _) (Hb : AHeap) (acc : List Ce) (pre : List (List Ce)), xs = .v (.int .i64 i) :: .v (.int .i64 n) :: x :: g ∧ m = rows.length - i ∧ i ≤ rows.length ∧ I n Hb ∧ ExJ Hb H2 ∧ OwS H2 Hb.next 52 3 x (cesA acc) ∧ joinL rows = pre ++ joinG acc (rows.drop i) ∧ pre.length = n ∧ n ≤ i ∧ acc.length ≤ i * 300) rows.length
  focus (intro xs; simp only [putMany, set2, Nat.reduceAdd, Nat.reduceDiv, Nat.reduceMod, nth_zero, nth_succ, List.set_cons_zero, List.set_cons_succ]; rfl)
  focus (first | rfl | simp only [readMany, nth_zero, nth_succ, Nat.reduceDiv, Nat.reduceMod])
  · exact ⟨0, 0, _, _, H, [], [], rfl, rfl, Nat.zero_le _, h0, ExJ.refl _, OwS.nil _ _ _ _, rfl, rfl, Nat.le_refl _, Nat.zero_le _⟩
  · rintro m xs H2 ⟨i, n, x, g, Hb, acc, pre, rfl, rfl, hi, hIn, hx, ho, hj, hp, hni, hal⟩
    obtain ⟨b1, b2, b3, b4⟩ := hI n Hb hIn
    have hn2 := hx.x.next
    have gb : H2.get b = some (rwsBlk A) := by rw [hx.x.get _ b2]; exact b1
    have hA2 := b3.ext hx.x
    by_cases hlt : i < rows.length
    · have hrc := hr.sl i hlt
      have hrl2 := hr.lt i hlt
      have hsl := sndR_len (r := rows.getD i noRw)
      have hsd : ∀ ys G, CallRo (ELo oc) ys lo 70 [rowA (bOf es i) (rows.getD i noRw).2] G (rowA (sndA (bOf es i) (rows.getD i noRw).1) (sndR (rows.getD i noRw)).2) := fun ys G => by
        rw [show (sndR (rows.getD i noRw)).2 = (decide (rowG (rows.getD i noRw).1) && (rows.getD i noRw).2) from sndR_2 _ _]
        exact sound_run hrc (by omega)
      have hsg : ∀ ys G, CallRo (ELo oc) ys lo 71 [sndA (bOf es i) (rows.getD i noRw).1] G (slA (sigR (rows.getD i noRw))) := fun ys G => signs_run (.inl (sndA_Sl hrc)) (by omega)
      have hcs := cells_SlH (H := H2) (.inl (sndA_Sl (r := rows.getD i noRw) hrc))
      have hsig : (sigR (rows.getD i noRw)).length ≤ 300 := by
        have := sigL_len (sndR (rows.getD i noRw)).1
        show (sigL _).length ≤ 300
        omega
      obtain ⟨x', H3, tr3, happ, ho', hnx, hfr, hjs, _⟩ := (ho.push ⟨48, 2, 0, [[sndA (bOf es i) (rows.getD i noRw).1, .v (.bool (sndR (rows.getD i noRw)).2)]], none⟩).addN (ELo oc) lo app_cell (.inl (slA_Sl (sigR (rows.getD i noRw)))) (fun k _ hk => (slA_Sl _).nmO hk) (by omega) (by (first | omega | (simp only [next_push, next_set, next_empty]; done) | (simp only [next_push, next_set, next_empty]; omega))) (by rw [ces_len, ces_len]; unfold roomMax; omega)
      rw [next_push] at hnx
      have hfr' : ∀ k, k < Hb.next ∨ k = H2.next → H3.get k = (H2.push ⟨48, 2, 0, [[sndA (bOf es i) (rows.getD i noRw).1, .v (.bool (sndR (rows.getD i noRw)).2)]], none⟩).get k := fun k hk => hfr k (by rw [next_push]; omega) (fun z => by have := ho.nm z; omega)
      have k6 : H3.get H2.next = some ⟨48, 2, 0, [[sndA (bOf es i) (rows.getD i noRw).1, .v (.bool (sndR (rows.getD i noRw)).2)]], none⟩ := by rw [hfr' _ (.inr rfl), get_push, if_pos rfl]
      have kx : ExJ Hb H3 := ⟨⟨by omega, fun k hk => by rw [hfr' k (.inl hk), get_push, if_neg (by omega), hx.x.get k hk]⟩, by rw [hjs]; exact hx.j⟩
      have kb : H3.get b = some (rwsBlk A) := by rw [kx.x.get _ b2]; exact b1
      have hA3 := b3.ext kx.x
      have hcx := ho'.cells
      have happ2 : cesA acc ++ cesA (sigR (rows.getD i noRw)) = cesA (acc ++ sigR (rows.getD i noRw)) := by simp [cesA]
      rw [happ2] at ho'
      have hdr : rows.drop i = rows.getD i noRw :: rows.drop (i + 1) := by
        rw [List.drop_eq_getElem_cons hlt, List.getD_eq_getElem?_getD, List.getElem?_eq_getElem hlt]; rfl
      rw [hdr] at hj
      have hal2 : (acc ++ sigR (rows.getD i noRw)).length ≤ (i + 1) * 300 := by rw [List.length_append]; omega
      have hTm := fun ys => Trim_run (ys := ys) (lo := lo) ho'.slh (by omega)
      have e1 : ((rows.length : Int) - 1) = ((rows.length : Int) - 1) := rfl
      repeat' (first | refine zka ?_ | refine zkb ?_ | (apply RKp.op; ((try simp (disch := (first | omega | exact zX | exact zO | fail)) only [gb, k6, kb, hcs, hcx, happ, Int.toNat_natCast, lenR lo hA2 hr, ixR lo hA2 hr, ldR lo hA2 hr, lenR lo hA3 hr, go_sem, Nat.reduceDiv, Nat.reduceMod, Nat.reduceAdd, Nat.reduceSub, Nat.reduceEqDiff, Nat.reduceLeDiff, Nat.reduceLT, Nat.reduceMul, reduceIte, Nat.reducePow, Int.reduceEq]); exact zL); rfl) | (apply RKp.callR; ((first | apply hsd | apply hsg) <;> (exact zD)); rfl; intro tr htr) | (apply RKp.callRE; (apply hTm <;> (exact zD)); (intro x; rfl)) | refine zkc ?_ | apply RKg.tt | apply RKg.ff | refine zkd ?_ | refine zke ?_ | refine zkf ?_ | (refine RKg.split (fun h => ?_) (fun h => ?_) <;> (try rw [h]) <;> (replace h := zB h) <;> (try (exfalso; first | exact h | omega))) | apply RK.nil | apply V.sq | apply V.bl | apply V.sc | apply V.skip | apply V.label | apply V.ret | apply V.exit | apply SeqQ.normal | apply SeqQ.ret | apply SeqQ.exit | apply BlockQ.normal | apply BlockQ.ret | apply BlockQ.here | refine zbt ?_ | apply LoopS.ret | apply LoopS.exit | apply LoopF.ret | apply LoopF.exit | apply V.regK | refine zvd ?_ | refine zve ?_ | (refine zvf (fun h => ?_) (fun h => ?_) <;> (replace h := zB h) <;> (try (exfalso; first | exact h | omega))) | (refine zfa Tryz.results73 ?_; (try dsimp only)) | (refine zfb Tryz.results73 ?_; (try dsimp only)))
      all_goals first
        | (refine LoopS.again (rows.length - (i + 1)) (by rfl) (by omega) ⟨i + 1, n, x', _, Hb, _, pre, rfl, rfl, by omega, hIn, kx, ho', ?_, hp, by omega, hal2⟩
           rw [hj, joinG_wrap (by assumption) (fun z => by have := congrArg List.length z; simp at this; omega)])
        | skip
      all_goals
        have hend : ¬ ((sndR (rows.getD i noRw)).2 = true ∧ rows.drop (i + 1) ≠ []) := by
          rintro ⟨z1, z2⟩
          first
            | (have := List.length_pos_iff.2 z2; rw [List.length_drop] at this; omega)
            | (rw [h] at z1; cases z1)
        rw [joinG_end hend] at hj
        have hjn : (joinL rows).getD n [] = trimL (acc ++ sigR (rows.getD i noRw)) := by
          rw [hj, List.getD_eq_getElem?_getD, List.getElem?_append_right (by omega), hp, Nat.sub_self]; rfl
        have hjl : n < (joinL rows).length := by rw [hj, List.length_append, List.length_cons]; omega
        rintro xt tt htt hxt
        have yy' := fun hs => yy n H3 xt hjl (hst n Hb H3 hIn kx) hs
        rw [hjn] at yy'
        have yy'' := yy' hxt
        repeat' (first | refine zka ?_ | refine zkb ?_ | (apply RKp.op; ((try simp (disch := (first | omega | exact zX | exact zO | fail)) only [go_sem, Nat.reduceDiv, Nat.reduceMod, Nat.reduceAdd, Nat.reduceSub, Nat.reduceEqDiff, Nat.reduceLeDiff, Nat.reduceLT, Nat.reduceMul, reduceIte, Nat.reducePow, Int.reduceEq]); exact zL); rfl) | (apply RKp.yield; (apply yy'' <;> (exact zD)); (intro x; rfl)) | refine zkc ?_ | apply RKg.tt | apply RKg.ff | refine zkd ?_ | refine zke ?_ | refine zkf ?_ | (refine RKg.split (fun h => ?_) (fun h => ?_) <;> (try rw [h]) <;> (replace h := zB h) <;> (try (exfalso; first | exact h | omega))) | apply RK.nil | apply V.sq | apply V.bl | apply V.sc | apply V.skip | apply V.label | apply V.ret | apply V.exit | apply SeqQ.normal | apply SeqQ.ret | apply SeqQ.exit | apply BlockQ.normal | apply BlockQ.ret | apply BlockQ.here | refine zbt ?_ | apply LoopS.ret | apply LoopS.exit | apply LoopF.ret | apply LoopF.exit | apply V.regK | refine zvd ?_ | refine zve ?_ | (refine zvf (fun h => ?_) (fun h => ?_) <;> (replace h := zB h) <;> (try (exfalso; first | exact h | omega))) | (refine zfa Tryz.results73 ?_; (try dsimp only)) | (refine zfb Tryz.results73 ?_; (try dsimp only)))
        rintro x5 H5 (⟨rfl, hI5⟩ | ⟨rfl, hJ⟩)
        · repeat' (first | refine zka ?_ | refine zkb ?_ | (apply RKp.op; ((try simp (disch := (first | omega | exact zX | exact zO | fail)) only [go_sem, Nat.reduceDiv, Nat.reduceMod, Nat.reduceAdd, Nat.reduceSub, Nat.reduceEqDiff, Nat.reduceLeDiff, Nat.reduceLT, Nat.reduceMul, reduceIte, Nat.reducePow, Int.reduceEq]); exact zL); rfl) | refine zkc ?_ | apply RKg.tt | apply RKg.ff | refine zkd ?_ | refine zke ?_ | refine zkf ?_ | (refine RKg.split (fun h => ?_) (fun h => ?_) <;> (try rw [h]) <;> (replace h := zB h) <;> (try (exfalso; first | exact h | omega))) | apply RK.nil | apply V.sq | apply V.bl | apply V.sc | apply V.skip | apply V.label | apply V.ret | apply V.exit | apply SeqQ.normal | apply SeqQ.ret | apply SeqQ.exit | apply BlockQ.normal | apply BlockQ.ret | apply BlockQ.here | refine zbt ?_ | apply LoopS.ret | apply LoopS.exit | apply LoopF.ret | apply LoopF.exit | apply V.regK | refine zvd ?_ | refine zve ?_ | (refine zvf (fun h => ?_) (fun h => ?_) <;> (replace h := zB h) <;> (try (exfalso; first | exact h | omega))) | (refine zfa Tryz.results73 ?_; (try dsimp only)) | (refine zfb Tryz.results73 ?_; (try dsimp only)))
          refine LoopS.again (rows.length - (i + 1)) (by rfl) (by omega) ⟨i + 1, n + 1, _, _, H5, [], pre ++ [trimL (acc ++ sigR (rows.getD i noRw))], rfl, rfl, by omega, hI5, ExJ.refl _, OwS.nil _ _ _ _, ?_, by rw [List.length_append, hp]; rfl, by omega, Nat.zero_le _⟩
          rw [hj, List.append_assoc]; rfl
        · repeat' (first | refine zka ?_ | refine zkb ?_ | (apply RKp.op; ((try simp (disch := (first | omega | exact zX | exact zO | fail)) only [go_sem, Nat.reduceDiv, Nat.reduceMod, Nat.reduceAdd, Nat.reduceSub, Nat.reduceEqDiff, Nat.reduceLeDiff, Nat.reduceLT, Nat.reduceMul, reduceIte, Nat.reducePow, Int.reduceEq]); exact zL); rfl) | refine zkc ?_ | apply RKg.tt | apply RKg.ff | refine zkd ?_ | refine zke ?_ | refine zkf ?_ | (refine RKg.split (fun h => ?_) (fun h => ?_) <;> (try rw [h]) <;> (replace h := zB h) <;> (try (exfalso; first | exact h | omega))) | apply RK.nil | apply V.sq | apply V.bl | apply V.sc | apply V.skip | apply V.label | apply V.ret | apply V.exit | apply SeqQ.normal | apply SeqQ.ret | apply SeqQ.exit | apply BlockQ.normal | apply BlockQ.ret | apply BlockQ.here | refine zbt ?_ | apply LoopS.ret | apply LoopS.exit | apply LoopF.ret | apply LoopF.exit | apply V.regK | refine zvd ?_ | refine zve ?_ | (refine zvf (fun h => ?_) (fun h => ?_) <;> (replace h := zB h) <;> (try (exfalso; first | exact h | omega))) | (refine zfa Tryz.results73 ?_; (try dsimp only)) | (refine zfb Tryz.results73 ?_; (try dsimp only)))
          exact .inr hJ
    · have e : i = rows.length := by omega
      subst e
      rw [List.drop_length, joinG_nil, List.append_nil] at hj
      repeat' (first | refine zka ?_ | refine zkb ?_ | (apply RKp.op; ((try simp (disch := (first | omega | exact zX | exact zO | fail)) only [go_sem, Nat.reduceDiv, Nat.reduceMod, Nat.reduceAdd, Nat.reduceSub, Nat.reduceEqDiff, Nat.reduceLeDiff, Nat.reduceLT, Nat.reduceMul, reduceIte, Nat.reducePow, Int.reduceEq]); exact zL); rfl) | refine zkc ?_ | apply RKg.tt | apply RKg.ff | refine zkd ?_ | refine zke ?_ | refine zkf ?_ | (refine RKg.split (fun h => ?_) (fun h => ?_) <;> (try rw [h]) <;> (replace h := zB h) <;> (try (exfalso; first | exact h | omega))) | apply RK.nil | apply V.sq | apply V.bl | apply V.sc | apply V.skip | apply V.label | apply V.ret | apply V.exit | apply SeqQ.normal | apply SeqQ.ret | apply SeqQ.exit | apply BlockQ.normal | apply BlockQ.ret | apply BlockQ.here | refine zbt ?_ | apply LoopS.ret | apply LoopS.exit | apply LoopF.ret | apply LoopF.exit | apply V.regK | refine zvd ?_ | refine zve ?_ | (refine zvf (fun h => ?_) (fun h => ?_) <;> (replace h := zB h) <;> (try (exfalso; first | exact h | omega))) | (refine zfa Tryz.results73 ?_; (try dsimp only)) | (refine zfb Tryz.results73 ?_; (try dsimp only)))
      left
      rw [hj, hp]
      exact hst n Hb _ hIn hx
theorem app_line : appInfo (ELo oc).P 23 = some (41, 24, 1) := by kernel_rfl
theorem flat_LsP {es : List (List AV)} {ls : List (List Ce)} (h : LsP es ls) : FlatE es := fun c hc => by
  obtain ⟨j, hj, rfl⟩ := List.mem_iff_getElem.1 hc
  have hj' : j < ls.length := by rw [← h.len]; exact hj
  have e : nth [] es j = es[j] := by rw [nth_getD, List.getD_eq_getElem?_getD, List.getElem?_eq_getElem hj]; rfl
  rw [← e, h.cell j hj']
  intro x hx
  rw [List.mem_singleton] at hx
  subst hx
  exact flat_Sl (h.sl j hj')
abbrev lnsBlk (x : AV) : Blk := ⟨23, 1, 0, [[x]], none⟩

/-- Lines under way, in a variable's block n. -/
structure JoinI (Hs : AHeap) (n : Nat) (ls : List (List Ce)) (i : Nat) (G : AHeap) : Prop where
  nx : Hs.next ≤ G.next
  kp : ∀ k, k < Hs.next → k ≠ n → G.get k = Hs.get k
  js : G.js = Hs.js
  il : i ≤ ls.length
  st : ∃ x es', G.get n = some (lnsBlk x) ∧ OwS G Hs.next 41 1 x es' ∧ LsP es' (ls.take i) ∧ (es' = [] → x = nilA)
theorem JoinI.on {Hs G G' : AHeap} {n i : Nat} {ls : List (List Ce)} (h : JoinI Hs n ls i G) (hn : n < Hs.next) (hx : ExJ G G') : JoinI Hs n ls i G' := by
  obtain ⟨h1, h2, h3, h4, x, es', h5, h6, h7, h8⟩ := h
  have := hx.x.next
  exact ⟨by omega, fun k hk hkn => by rw [hx.x.get k (by omega), h2 k hk hkn], hx.j.trans h3, h4, x, es', by rw [hx.x.get n (by omega)]; exact h5, h6.on hx.x.next fun k _ hk => hx.x.get k hk, h7, h8⟩
theorem find_self {α : Type} (k : Nat) (r : α) (l : List (Nat × α)) : ((k, r) :: l).find? (fun p => p.1 == k) = some (k, r) := by simp [List.find?]
theorem js_on (J : List LS) : (J ++ [LS.on])[J.length]? = some LS.on := by simp
theorem js_off (J : List LS) (x y : LS) : ((J ++ [x]).set J.length y) = J ++ [y] := by
  rw [List.set_append_right _ _ (Nat.le_refl _), Nat.sub_self]; rfl
theorem Join_run (hA : SlH H 2 A es) (hr : RsP es rows) (hrl : rows.length < 2 ^ 20) : CallNE (ELo oc) ys lo 28 [A] H fun x G => ∃ es', OwS G H.next 41 1 x es' ∧ LsP es' (joinL rows) ∧ Ext H G ∧ G.js = H.js := by
  have key := WC.ownNE (ys := ys) (lo := lo) (H := H) (f := 28) (args := [A]) (E := (ELo oc)) (K := fun x bs => ∃ es', LsP es' (joinL rows) ∧ ((es' = [] ∧ x = (fun _ => nilA) ∧ bs = fun _ => []) ∨ (es' ≠ [] ∧ x = (fun b => .os b 0 0 es'.length) ∧ bs = fun _ => [⟨41, 1, 0, es', none⟩]))) rfl ?_
  · obtain ⟨x, G, tr, h1, h2, x', bs', ⟨es', h3, h4⟩, rfl, rfl⟩ := key
    refine ⟨_, _, tr, h1, h2, es', ?_, h3, pushAll_ext _ _, pushAll_js _ _⟩
    rcases h4 with ⟨h5, rfl, rfl⟩ | ⟨h5, rfl, rfl⟩
    · exact .inl ⟨h5, .inr rfl⟩
    · exact .inr ⟨H.next, 0, rfl, Nat.le_refl _, by show H.next < (H.push _).next; rw [next_push]; omega, by show (H.push _).get H.next = _; rw [get_push, if_pos rfl]⟩
  · intro lo' H' hh
    have hA' := hA.two (.inr ⟨[], .inr List.mem_cons_self⟩) hh
    have hlo := lo_two hh
    have hE := fun ys G (x : Ext H' G) => Each_run (ys := ys) (lo := lo') (hA'.ext x)
    refine zvin Tryz.func28 Tryz.ntmps28 ?_
    repeat' (first | refine zka ?_ | refine zkb ?_ | (apply RKp.op; ((try simp (disch := (first | omega | exact zX | exact zO | fail)) only [go_sem, Nat.reduceDiv, Nat.reduceMod, Nat.reduceAdd, Nat.reduceSub, Nat.reduceEqDiff, Nat.reduceLeDiff, Nat.reduceLT, Nat.reduceMul, reduceIte, Nat.reducePow, Int.reduceEq]); exact zL); rfl) | (apply RKp.callN; (apply hE <;> (exact zD)); rfl; intro tr htr) | refine zkc ?_ | apply RKg.tt | apply RKg.ff | refine zkd ?_ | refine zke ?_ | refine zkf ?_ | (refine RKg.split (fun h => ?_) (fun h => ?_) <;> (try rw [h]) <;> (replace h := zB h) <;> (try (exfalso; first | exact h | omega))) | apply RK.nil | apply V.sq | apply V.bl | apply V.sc | apply V.skip | apply V.label | apply V.ret | apply V.exit | apply SeqQ.normal | apply SeqQ.ret | apply SeqQ.exit | apply BlockQ.normal | apply BlockQ.ret | apply BlockQ.here | refine zbt ?_ | apply LoopS.ret | apply LoopS.exit | apply LoopF.ret | apply LoopF.exit | apply V.regK | refine zvd ?_ | refine zve ?_ | (refine zvf (fun h => ?_) (fun h => ?_) <;> (replace h := zB h) <;> (try (exfalso; first | exact h | omega))) | (refine zfc Tryz.results28 ?_; (try dsimp only)))
    generalize hHs : (H'.push (lnsBlk (.v (.slice none 0 0)))).push (rwsBlk A) = Hs
    have s1 : Hs.next = H'.next + 2 := by rw [← hHs]; rfl
    have s2 : Hs.js = H'.js := by rw [← hHs]; rfl
    have s3 : Hs.get H'.next = some (lnsBlk nilA) := by rw [← hHs]; simp (disch := (first | omega | exact zX | fail)) only [get_set, get_push, next_push, next_set, if_pos', if_neg', if_true, if_false, reduceIte]; rfl
    have s4 : Hs.get (H'.next + 1) = some (rwsBlk A) := by rw [← hHs]; simp (disch := (first | omega | exact zX | fail)) only [get_set, get_push, next_push, next_set, if_pos', if_neg', if_true, if_false, reduceIte]
    have s5 : Ext H' Hs := by rw [← hHs]; exact ((Ext.refl _).push _).push _
    refine V.rf rfl rfl ((Each1_wc (A := A) (es := es) (rows := rows) (b := H'.next + 1) (JoinI (Hs.wj (Hs.js ++ [.on])) H'.next (joinL rows)) (fun _ => False) hr hrl ?_ ?_ ?_ ?_).mono ?_)
    · intro i G hG
      have h1 := hG.nx
      rw [next_wj] at h1
      refine ⟨by rw [hG.kp _ (by rw [next_wj]; omega) (by omega)]; exact s4, by omega, hA'.ext ⟨by omega, fun k hk => by rw [hG.kp k (by rw [next_wj]; omega) (by omega), get_wj]; exact s5.get k hk⟩, by omega⟩
    · intro i G G' hG hx
      exact hG.on (by rw [next_wj]; omega) hx
    · intro i G x hi hG hx
      obtain ⟨h1, h2, h3, h4, x0, es', h5, h6, h7, h8⟩ := hG
      rw [next_wj] at h1 h6
      have hle := h7.len
      rw [List.length_take, Nat.min_eq_left (by omega)] at hle
      have hjl0 : (joinL rows).length ≤ rows.length := joinG_le rows []
      obtain ⟨x', G3, tr3, happ, ho', hnx, hfr⟩ := (h6.on (H' := G.wj (G.js.set Hs.js.length .busy)) (Nat.le_refl _) fun k _ _ => rfl).add1 (ELo oc) lo' app_line (by omega) h1 (by unfold roomMax; omega) [x]
      have hj3 := primL_js happ
      rw [next_wj] at happ hnx
      have hj4 : G3.js = Hs.js ++ [.busy] := by rw [hj3, js_push, js_wj, h3, js_wj, js_off]
      have hcx := h6.cells
      have hcx' := ho'.cells
      have hc1 : cellsOf x = some [x] := cells_SlH (H := H') (.inl hx)
      have hbl := joinL_bd hr i hi
      refine YR.intro (find_self _ _ _) (by rw [h3]; exact js_on _) rfl rfl ?_
      repeat' (first | refine zka ?_ | refine zkb ?_ | (apply RKp.op; ((try simp (disch := (first | omega | exact zX | exact zO | fail)) only [go_sem, Nat.reduceDiv, Nat.reduceMod, Nat.reduceAdd, Nat.reduceSub, Nat.reduceEqDiff, Nat.reduceLeDiff, Nat.reduceLT, Nat.reduceMul, reduceIte, Nat.reducePow, Int.reduceEq]); exact zL); rfl) | refine zkc ?_ | apply RKg.tt | apply RKg.ff | refine zkd ?_ | refine zke ?_ | refine zkf ?_ | (refine RKg.split (fun h => ?_) (fun h => ?_) <;> (try rw [h]) <;> (replace h := zB h) <;> (try (exfalso; first | exact h | omega))) | apply RK.nil | apply V.sq | apply V.bl | apply V.sc | apply V.skip | apply V.label | apply V.ret | apply V.exit | apply SeqQ.normal | apply SeqQ.ret | apply SeqQ.exit | apply BlockQ.normal | apply BlockQ.ret | apply BlockQ.here | refine zbt ?_ | apply LoopS.ret | apply LoopS.exit | apply LoopF.ret | apply LoopF.exit | apply V.regK | refine zvd ?_ | refine zve ?_ | (refine zvf (fun h => ?_) (fun h => ?_) <;> (replace h := zB h) <;> (try (exfalso; first | exact h | omega))) | (refine zfc Tryz.results28 ?_; (try dsimp only)))
      refine ⟨rfl, ?_⟩
      dsimp only
      have k3 : G3.get H'.next = some (lnsBlk x0) := by rw [hfr _ (by omega)]; exact h5
      repeat' (first | refine zka ?_ | refine zkb ?_ | (apply RKp.op; ((try simp (disch := (first | omega | exact zX | exact zO | fail)) only [h5, k3, happ, hcx, hcx', hc1, go_sem, Nat.reduceDiv, Nat.reduceMod, Nat.reduceAdd, Nat.reduceSub, Nat.reduceEqDiff, Nat.reduceLeDiff, Nat.reduceLT, Nat.reduceMul, reduceIte, Nat.reducePow, Int.reduceEq]); exact zL); rfl) | refine zkc ?_ | apply RKg.tt | apply RKg.ff | refine zkd ?_ | refine zke ?_ | refine zkf ?_ | (refine RKg.split (fun h => ?_) (fun h => ?_) <;> (try rw [h]) <;> (replace h := zB h) <;> (try (exfalso; first | exact h | omega))) | apply RK.nil | apply V.sq | apply V.bl | apply V.sc | apply V.skip | apply V.label | apply V.ret | apply V.exit | apply SeqQ.normal | apply SeqQ.ret | apply SeqQ.exit | apply BlockQ.normal | apply BlockQ.ret | apply BlockQ.here | refine zbt ?_ | apply LoopS.ret | apply LoopS.exit | apply LoopF.ret | apply LoopF.exit | apply V.regK | refine zvd ?_ | refine zve ?_ | (refine zvf (fun h => ?_) (fun h => ?_) <;> (replace h := zB h) <;> (try (exfalso; first | exact h | omega))) | (refine zfc Tryz.results28 ?_; (try dsimp only)))
      refine .inl ⟨rfl, ⟨by rw [next_wj, next_wj, next_set]; omega, fun k hk hkn => ?_, ?_, by omega, x', es' ++ [[x]], ?_, ?_, ?_, fun z => by simp at z⟩⟩
      · rw [next_wj] at hk
        rw [get_wj, get_set, if_neg (Ne.symm hkn), hfr k (by omega), get_wj, h2 k (by rw [next_wj]; omega) hkn]
      · rw [js_wj, js_set, hj4, js_off, js_wj]
      · rw [get_wj, get_set, if_pos rfl]
      · exact (ho'.set (m := H'.next) (by omega) _).on (Nat.le_refl _) fun k _ _ => rfl
      · rw [List.take_add_one, List.getElem?_eq_getElem hi]
        have hgd : (joinL rows).getD i [] = (joinL rows)[i] := by rw [List.getD_eq_getElem?_getD, List.getElem?_eq_getElem hi]; rfl
        have := h7.add hx (by omega) hbl.2
        rw [hgd] at this
        exact this
    · refine ⟨Nat.le_refl _, fun k _ _ => rfl, rfl, Nat.zero_le _, nilA, [], by rw [get_wj]; exact s3, OwS.nil _ _ _ _, LsP.nil, fun _ => rfl⟩
    · rintro r G (hG | hG)
      · obtain ⟨h1, h2, h3, h4, x0, es', h5, h6, h7, h8⟩ := hG
        have e : G.js[Hs.js.length]? = some .on := by rw [h3]; exact js_on _
        rw [e]
        dsimp only
        repeat' (first | refine zka ?_ | refine zkb ?_ | (apply RKp.op; ((try simp (disch := (first | omega | exact zX | exact zO | fail)) only [h5, go_sem, Nat.reduceDiv, Nat.reduceMod, Nat.reduceAdd, Nat.reduceSub, Nat.reduceEqDiff, Nat.reduceLeDiff, Nat.reduceLT, Nat.reduceMul, reduceIte, Nat.reducePow, Int.reduceEq]); exact zL); rfl) | refine zkc ?_ | apply RKg.tt | apply RKg.ff | refine zkd ?_ | refine zke ?_ | refine zkf ?_ | (refine RKg.split (fun h => ?_) (fun h => ?_) <;> (try rw [h]) <;> (replace h := zB h) <;> (try (exfalso; first | exact h | omega))) | apply RK.nil | apply V.sq | apply V.bl | apply V.sc | apply V.skip | apply V.label | apply V.ret | apply V.exit | apply SeqQ.normal | apply SeqQ.ret | apply SeqQ.exit | apply BlockQ.normal | apply BlockQ.ret | apply BlockQ.here | refine zbt ?_ | apply LoopS.ret | apply LoopS.exit | apply LoopF.ret | apply LoopF.exit | apply V.regK | refine zvd ?_ | refine zve ?_ | (refine zvf (fun h => ?_) (fun h => ?_) <;> (replace h := zB h) <;> (try (exfalso; first | exact h | omega))) | (refine zfc Tryz.results28 ?_; (try dsimp only)))
        rw [List.take_length] at h7
        by_cases hne : es' = []
        · rw [h8 hne]
          exact ⟨fun _ => nilA, fun _ => [], hands_flat rfl, es', h7, .inl ⟨hne, rfl, rfl⟩⟩
        · rcases h6 with ⟨z, _⟩ | ⟨n, e1, rfl, q1, q2, q3⟩
          · exact absurd z hne
          · rw [next_wj] at q1
            exact ⟨fun b => .os b 0 0 es'.length, fun _ => [⟨41, 1, 0, es', none⟩], hands_os (b := ⟨41, 1, e1, es', none⟩) (by omega) (by rw [get_wj]; exact q3) rfl (flat_LsP h7), es', h7, .inr ⟨hne, rfl, rfl⟩⟩
      · exact hG.elim
end
end Go.Am
