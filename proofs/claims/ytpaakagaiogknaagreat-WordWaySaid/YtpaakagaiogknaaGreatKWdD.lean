
/- Words: the reference's. -/
import Derived.Test.YtpaakagaiogknaaGreatKWdC
import Derived.Test.YtpaakagaiogknaaGreatKLnN
set_option linter.all false
set_option linter.deprecated false
namespace Go.Am
variable {oc : Orc} [OrcI oc]
open Go.Proofs
set_option maxRecDepth 8000
set_option maxHeartbeats 8000000
def spE (l : List (Nat × Nat)) : List (List AV) := l.map fun p => [.v (.int .i64 (p.1 : Int)), .v (.int .i64 (p.2 : Int)), .v (.int .i64 0)]
theorem spE_len (l : List (Nat × Nat)) : (spE l).length = l.length := List.length_map _
theorem spE_add (l : List (Nat × Nat)) (p : Nat × Nat) : spE (l ++ [p]) = spE l ++ [[.v (.int .i64 (p.1 : Int)), .v (.int .i64 (p.2 : Int)), .v (.int .i64 0)]] := by unfold spE; rw [List.map_append]; rfl
theorem nth_spE (l : List (Nat × Nat)) (i : Nat) (h : i < l.length) : nth [] (spE l) i = [.v (.int .i64 ((l.getD i (0, 0)).1 : Int)), .v (.int .i64 ((l.getD i (0, 0)).2 : Int)), .v (.int .i64 0)] := nth_map _ l i (0, 0) h
theorem app_spot : appInfo (ELo oc).P 34 = some (24, 24, 3) := by kernel_rfl
structure Up (last : Bool) (ls : List (List Ce)) (L : List (Nat × Nat)) (p : Nat × Nat) : Prop where
  a : ∀ e ∈ L, Edge last ls e ∧ ltP e p
  b : ∀ e, Edge last ls e → ltP e p → e ∈ L
  c : L.Pairwise ltP
section
variable {last : Bool} {ls : List (List Ce)} {L : List (Nat × Nat)} {i k : Nat}
theorem Up.nil : Up last ls [] (0, 0) := ⟨fun e h => absurd h List.not_mem_nil, fun e _ h => by unfold ltP at h; dsimp only at h; omega, List.Pairwise.nil⟩
theorem ltP_S {e : Nat × Nat} (h : ltP e (i, k + 1)) : ltP e (i, k) ∨ e = (i, k) := by
  unfold ltP at h ⊢
  dsimp only at h ⊢
  by_cases q : e = (i, k)
  · exact .inr q
  · refine .inl ?_
    by_cases q1 : e.1 = i
    · by_cases q2 : e.2 = k
      · exact absurd (Prod.ext q1 q2) q
      · omega
    · omega
theorem Up.skip (h : Up last ls L (i, k)) (hn : ¬ Edge last ls (i, k)) : Up last ls L (i, k + 1) := by
  refine ⟨fun e he => ⟨(h.a e he).1, ?_⟩, fun e h1 h2 => ?_, h.c⟩
  · have := (h.a e he).2
    unfold ltP at this ⊢
    dsimp only at this ⊢
    omega
  · rcases ltP_S h2 with z | rfl
    · exact h.b e h1 z
    · exact absurd h1 hn
theorem Up.add (h : Up last ls L (i, k)) (hn : Edge last ls (i, k)) : Up last ls (L ++ [(i, k)]) (i, k + 1) := by
  refine ⟨fun e he => ?_, fun e h1 h2 => ?_, List.pairwise_append.2 ⟨h.c, List.pairwise_singleton _ _, fun a ha b hb => ?_⟩⟩
  · rcases List.mem_append.1 he with z | z
    · refine ⟨(h.a e z).1, ?_⟩
      have := (h.a e z).2
      unfold ltP at this ⊢
      dsimp only at this ⊢
      omega
    · rw [List.mem_singleton.1 z]
      exact ⟨hn, .inr ⟨rfl, Nat.lt_succ_self _⟩⟩
  · rcases ltP_S h2 with z | rfl
    · exact List.mem_append_left _ (h.b e h1 z)
    · exact List.mem_append_right _ (List.mem_singleton.2 rfl)
  · rw [List.mem_singleton.1 hb]; exact (h.a a ha).2
theorem Up.row (h : Up last ls L (i, k)) (hk : (ls.getD i []).length ≤ k) : Up last ls L (i + 1, 0) := by
  refine ⟨fun e he => ⟨(h.a e he).1, ?_⟩, fun e h1 h2 => h.b e h1 ?_, h.c⟩
  · have := (h.a e he).2
    unfold ltP at this ⊢
    dsimp only at this ⊢
    omega
  · unfold ltP at h2 ⊢
    dsimp only at h2 ⊢
    by_cases q : e.1 = i
    · have := h1.2.1
      rw [q] at this
      omega
    · omega
theorem Up.at_ (h : Up last ls L (ls.length, 0)) {j : Nat} (hj : j < L.length) : Edge last ls (L.getD j (0, 0)) := by
  have : L.getD j (0, 0) ∈ L := by rw [List.getD_eq_getElem?_getD, List.getElem?_eq_getElem hj]; exact List.getElem_mem hj
  exact (h.a _ this).1
theorem Up.has (h : Up last ls L (ls.length, 0)) {e : Nat × Nat} (he : Edge last ls e) : ∃ j, j < L.length ∧ L.getD j (0, 0) = e := by
  obtain ⟨j, hj, e1⟩ := List.getElem_of_mem (h.b e he (.inl he.1))
  exact ⟨j, hj, by rw [List.getD_eq_getElem?_getD, List.getElem?_eq_getElem hj]; exact e1⟩
theorem Up.lt (h : Up last ls L (ls.length, 0)) {a b : Nat} (hab : a < b) (hb : b < L.length) : ltP (L.getD a (0, 0)) (L.getD b (0, 0)) := by
  have := List.pairwise_iff_getElem.1 h.c a b (by omega) hb hab
  rw [List.getD_eq_getElem?_getD, List.getElem?_eq_getElem (by omega), List.getD_eq_getElem?_getD, List.getElem?_eq_getElem hb]
  exact this
end
section
variable {ys : List (Nat × LRec)} {lo : Nat} {H : AHeap} {A : AV} {l : List Ce} {es : List (List AV)} {ls : List (List Ce)}
theorem refWord_no (hA : Sl 1 A es) (hr : LsP es ls) (hls : ls.length < 2 ^ 20) (a b p how : Int) (hv : ¬ validS ls a b) : CallRo (ELo oc) ys lo 11 [A, .agg [.v (.int .i64 a), .v (.int .i64 b), .v (.int .i64 p)], .v (.int .i64 how)] H (.agg [.v (.int .i64 a), .v (.int .i64 b), .v (.int .i64 p)]) := by
  refine WC.pureR rfl fun lo' H' hh => ?_
  have hlo := lo_two hh
  have hz1 : rdTr A = ⟨0, 0, 0⟩ := by rcases hA with rfl | ⟨_, rfl | rfl⟩ <;> rfl
  have lnL : ∀ G, primL lo' G (builtinA (ELo oc) .len #[22] 3 [A]) = some (.v (.int .i64 ls.length), G, ⟨0, 0, 0⟩) := fun G => by rw [lenL lo' (.inl hA) hr G (Ext.refl _), hz1]
  have ixLz : ∀ G (z : Int), 0 ≤ z → z < ls.length → primL lo' G (indexAddrA (ELo oc) 22 A (.v (.int .i64 z))) = some (ixA A es z.toNat, G, ⟨0, 0, 0⟩) := fun G z z0 z1 => by rw [ixL lo' (.inl hA) hr G (Ext.refl _) .i64 z z0 z1, hz1]
  have ldLz : ∀ G j, j < ls.length → primL lo' G (loadA (ELo oc) 33 (ixA A es j)) = some (bOf es j, G, ⟨0, 0, 0⟩) := fun G j hj => by rw [ldL lo' (.inl hA) hr G (Ext.refl _) j hj, hz1]
  have lnC : ∀ G j, j < ls.length → primL lo' G (builtinA (ELo oc) .len #[33] 3 [bOf es j]) = some (.v (.int .i64 (ls.getD j []).length), G, ⟨0, 0, 0⟩) := fun G j hj => by
    have hs := hr.sl j hj
    rw [len_cell lo' (.inl hs)]
    have : rdTr (bOf es j) = ⟨0, 0, 0⟩ := by rcases hs with h | ⟨_, h | h⟩ <;> rw [h] <;> rfl
    rw [this]
  by_cases h1 : 0 ≤ a ∧ a < ls.length
  · have lnA := fun G => lnC G a.toNat (by omega)
    have hv2 : ¬ (0 ≤ b ∧ b ≤ (ls.getD a.toNat []).length) := fun z => hv ⟨h1.1, h1.2, z.1, z.2⟩
    generalize hL : (ls.getD a.toNat []).length = L at *
    refine zvin Tryz.func11 Tryz.ntmps11 ?_
    repeat' (first | refine zka ?_ | refine zkb ?_ | (apply RKp.op; ((try simp (disch := (first | omega | exact zX | exact zO | fail)) only [lnL, ixLz, ldLz, lnA, go_sem, Nat.reduceDiv, Nat.reduceMod, Nat.reduceAdd, Nat.reduceSub, Nat.reduceEqDiff, Nat.reduceLeDiff, Nat.reduceLT, Nat.reduceMul, reduceIte, Nat.reducePow, Int.reduceEq]); exact zL); rfl) | refine zkc ?_ | apply RKg.tt | apply RKg.ff | refine zkd ?_ | refine zke ?_ | refine zkf ?_ | (refine RKg.split (fun h => ?_) (fun h => ?_) <;> (try rw [h]) <;> (replace h := zB h) <;> (try (exfalso; first | exact h | omega))) | apply RK.nil | apply V.sq | apply V.bl | apply V.sc | apply V.skip | apply V.label | apply V.ret | apply V.exit | apply SeqQ.normal | apply SeqQ.ret | apply SeqQ.exit | apply BlockQ.normal | apply BlockQ.ret | apply BlockQ.here | refine zbt ?_ | apply LoopS.ret | apply LoopS.exit | apply LoopF.ret | apply LoopF.exit | apply V.regK | refine zva ?_ | refine zvb ?_ | refine zgc ?_ | refine zvd ?_ | refine zve ?_ | (refine zvf (fun h => ?_) (fun h => ?_) <;> (replace h := zB h) <;> (try (exfalso; first | exact h | omega))) | (refine FnQ.retB (resc Tryz.results11) (by simp (disch := (first | omega | exact zX | exact zO | fail)) only [cellR_op, lnL, ixLz, ldLz, lnA, go_sem, Nat.reduceDiv, Nat.reduceMod, Nat.reduceAdd, Nat.reduceSub, Nat.reduceEqDiff, Nat.reduceLeDiff, Nat.reduceLT, Nat.reduceMul, reduceIte, Nat.reducePow, Int.reduceEq]; rfl) ?_; (try dsimp only)))
    all_goals first
      | (exfalso; omega)
      | rfl
      | trace_state
  · refine zvin Tryz.func11 Tryz.ntmps11 ?_
    repeat' (first | refine zka ?_ | refine zkb ?_ | (apply RKp.op; ((try simp (disch := (first | omega | exact zX | exact zO | fail)) only [lnL, go_sem, Nat.reduceDiv, Nat.reduceMod, Nat.reduceAdd, Nat.reduceSub, Nat.reduceEqDiff, Nat.reduceLeDiff, Nat.reduceLT, Nat.reduceMul, reduceIte, Nat.reducePow, Int.reduceEq]); exact zL); rfl) | refine zkc ?_ | apply RKg.tt | apply RKg.ff | refine zkd ?_ | refine zke ?_ | refine zkf ?_ | (refine RKg.split (fun h => ?_) (fun h => ?_) <;> (try rw [h]) <;> (replace h := zB h) <;> (try (exfalso; first | exact h | omega))) | apply RK.nil | apply V.sq | apply V.bl | apply V.sc | apply V.skip | apply V.label | apply V.ret | apply V.exit | apply SeqQ.normal | apply SeqQ.ret | apply SeqQ.exit | apply BlockQ.normal | apply BlockQ.ret | apply BlockQ.here | refine zbt ?_ | apply LoopS.ret | apply LoopS.exit | apply LoopF.ret | apply LoopF.exit | apply V.regK | refine zva ?_ | refine zvb ?_ | refine zgc ?_ | refine zvd ?_ | refine zve ?_ | (refine zvf (fun h => ?_) (fun h => ?_) <;> (replace h := zB h) <;> (try (exfalso; first | exact h | omega))) | (refine FnQ.retB (resc Tryz.results11) (by simp (disch := (first | omega | exact zX | exact zO | fail)) only [cellR_op, lnL, go_sem, Nat.reduceDiv, Nat.reduceMod, Nat.reduceAdd, Nat.reduceSub, Nat.reduceEqDiff, Nat.reduceLeDiff, Nat.reduceLT, Nat.reduceMul, reduceIte, Nat.reducePow, Int.reduceEq]; rfl) ?_; (try dsimp only)))
    all_goals first
      | (exfalso; omega)
      | rfl
      | trace_state
theorem refWordN_run (hA : Sl 1 A es) (hr : LsP es ls) (hls : ls.length < 2 ^ 20) (hln : ∀ j, j < ls.length → (ls.getD j []).length < 2 ^ 20) (s : Nat × Nat) (p : Int) (hs1 : s.1 < ls.length) (hs2 : s.2 ≤ (ls.getD s.1 []).length) (how : Int) (hne : how ≠ 2) (last : Bool) (hlast : decide (how = 3) = last)
    (hf : ∀ ys lo G B (m : List Ce) (i : Nat), Sl 3 B (cesA m) → m.length < 2 ^ 40 → i < m.length → CallRo (ELo oc) ys lo 24 [B, .v (.int .i64 (i : Int)), .v (.bool (decide (how = 3)))] G (.v (.bool (decide (edgP last m i))))) : CallRoE (ELo oc) ys lo 11 [A, .agg [.v (.int .i64 (s.1 : Nat)), .v (.int .i64 (s.2 : Nat)), .v (.int .i64 p)], .v (.int .i64 how)] H fun x => ∃ r, x = spotA r ∧ IsNext last ls s r := by
  refine WC.pureE rfl fun lo' H' hh => ?_
  have hlo := lo_two hh
  have hz1 : rdTr A = ⟨0, 0, 0⟩ := by rcases hA with rfl | ⟨_, rfl | rfl⟩ <;> rfl
  have lnL : ∀ G, primL lo' G (builtinA (ELo oc) .len #[22] 3 [A]) = some (.v (.int .i64 ls.length), G, ⟨0, 0, 0⟩) := fun G => by rw [lenL lo' (.inl hA) hr G (Ext.refl _), hz1]
  have ixLz : ∀ G (z : Int), 0 ≤ z → z < ls.length → primL lo' G (indexAddrA (ELo oc) 22 A (.v (.int .i64 z))) = some (ixA A es z.toNat, G, ⟨0, 0, 0⟩) := fun G z z0 z1 => by rw [ixL lo' (.inl hA) hr G (Ext.refl _) .i64 z z0 z1, hz1]
  have ldLz : ∀ G j, j < ls.length → primL lo' G (loadA (ELo oc) 33 (ixA A es j)) = some (bOf es j, G, ⟨0, 0, 0⟩) := fun G j hj => by rw [ldL lo' (.inl hA) hr G (Ext.refl _) j hj, hz1]
  have lnC : ∀ G j, j < ls.length → primL lo' G (builtinA (ELo oc) .len #[33] 3 [bOf es j]) = some (.v (.int .i64 (ls.getD j []).length), G, ⟨0, 0, 0⟩) := fun G j hj => by
    have hs := hr.sl j hj
    rw [len_cell lo' (.inl hs)]
    have : rdTr (bOf es j) = ⟨0, 0, 0⟩ := by rcases hs with h | ⟨_, h | h⟩ <;> rw [h] <;> rfl
    rw [this]
  have lnA := fun G => lnC G s.1 hs1
  have hEd := fun ys G j hj i hi => hf ys lo' G (bOf es j) (ls.getD j []) i (hr.sl j hj) (hr.lt j hj) hi
  have hl1 := hln s.1 hs1
  refine zvin Tryz.func11 Tryz.ntmps11 ?_
  repeat' (first | refine zka ?_ | refine zkb ?_ | (apply RKp.op; ((try simp (disch := (first | omega | exact zX | exact zO | fail)) only [lnL, ixLz, ldLz, lnA, Int.toNat_natCast, go_sem, Nat.reduceDiv, Nat.reduceMod, Nat.reduceAdd, Nat.reduceSub, Nat.reduceEqDiff, Nat.reduceLeDiff, Nat.reduceLT, Nat.reduceMul, reduceIte, Nat.reducePow, Int.reduceEq]); exact zL); rfl) | refine zkc ?_ | apply RKg.tt | apply RKg.ff | refine zkd ?_ | refine zke ?_ | refine zkf ?_ | (refine RKg.split (fun h => ?_) (fun h => ?_) <;> (try rw [h]) <;> (replace h := zB h) <;> (try (exfalso; first | exact h | omega))) | apply RK.nil | apply V.sq | apply V.bl | apply V.sc | apply V.skip | apply V.label | apply V.ret | apply V.exit | apply SeqQ.normal | apply SeqQ.ret | apply SeqQ.exit | apply BlockQ.normal | apply BlockQ.ret | apply BlockQ.here | refine zbt ?_ | apply LoopS.ret | apply LoopS.exit | apply LoopF.ret | apply LoopF.exit | apply V.regK | refine zva ?_ | refine zvb ?_ | refine zgc ?_ | refine zvd ?_ | refine zve ?_ | (refine zvf (fun h => ?_) (fun h => ?_) <;> (replace h := zB h) <;> (try (exfalso; first | exact h | omega))) | (refine FnQ.retB (resc Tryz.results11) (by simp (disch := (first | omega | exact zX | exact zO | fail)) only [cellR_op, lnL, ixLz, ldLz, lnA, Int.toNat_natCast, go_sem, Nat.reduceDiv, Nat.reduceMod, Nat.reduceAdd, Nat.reduceSub, Nat.reduceEqDiff, Nat.reduceLeDiff, Nat.reduceLT, Nat.reduceMul, reduceIte, Nat.reducePow, Int.reduceEq]; rfl) ?_; (try dsimp only)))
  all_goals first
    | (exfalso; omega)
    | skip
  generalize hHs : (H'.push (spB (s.1 : Nat) (s.2 : Nat) p)).push (spB 0 0 0) = Hs
  have n0 : Hs.next = H'.next + 2 := by rw [← hHs]; rfl
  have g00 : Hs.get H'.next = some (spB (s.1 : Nat) (s.2 : Nat) p) := by rw [← hHs]; simp (disch := (first | omega | exact zX | fail)) only [get_set, get_push, next_push, next_set, if_pos', if_neg', if_true, if_false, reduceIte]
  have g10 : Hs.get (H'.next + 1) = some (spB 0 0 0) := by rw [← hHs]; simp (disch := (first | omega | exact zX | fail)) only [get_set, get_push, next_push, next_set, if_pos', if_neg', if_true, if_false, reduceIte]
  apply V.lpS [8, 7, 9, 39, 40, 41, 42, 43, 44, 45, 46, 47, 48, 49, 50, 51, 52, 53, 54, 55, 56, 57, 58, 59, 60, 61, 62, 63, 64, 65, 66, 67] (fun k xs H2 => ∃ (i : Nat) (y : AV) (g : _) (L : List (Nat × Nat)), xs = .v (.int .i64 i) :: y :: g ∧ k = ls.length - i ∧ i ≤ ls.length ∧ Ext Hs H2 ∧ OwS H2 Hs.next 24 3 y (spE L) ∧ Up last ls L (i, 0) ∧ L.length ≤ i * 2 ^ 20) ls.length
  focus (intro xs; simp only [putMany, set2, Nat.reduceAdd, Nat.reduceDiv, Nat.reduceMod, nth_zero, nth_succ, List.set_cons_zero, List.set_cons_succ]; rfl)
  focus (first | rfl | simp only [readMany, nth_zero, nth_succ, Nat.reduceDiv, Nat.reduceMod])
  ·
    refine ⟨0, _, _, [], rfl, rfl, Nat.zero_le _, Ext.refl _, OwS.nil _ _ _ _, Up.nil, Nat.zero_le _⟩
  ·
    rintro k xs H2 ⟨i, y, g, L, rfl, rfl, hi, hx, ho, hU, hLl⟩
    by_cases hlt : i < ls.length
    ·
      have hli := hln i hlt
      repeat' (first | refine zka ?_ | refine zkb ?_ | (apply RKp.op; ((try simp (disch := (first | omega | exact zX | exact zO | fail)) only [lnL, go_sem, Nat.reduceDiv, Nat.reduceMod, Nat.reduceAdd, Nat.reduceSub, Nat.reduceEqDiff, Nat.reduceLeDiff, Nat.reduceLT, Nat.reduceMul, reduceIte, Nat.reducePow, Int.reduceEq]); exact zL); rfl) | refine zkc ?_ | apply RKg.tt | apply RKg.ff | refine zkd ?_ | refine zke ?_ | refine zkf ?_ | (refine RKg.split (fun h => ?_) (fun h => ?_) <;> (try rw [h]) <;> (replace h := zB h) <;> (try (exfalso; first | exact h | omega))) | apply RK.nil | apply V.sq | apply V.bl | apply V.sc | apply V.skip | apply V.label | apply V.ret | apply V.exit | apply SeqQ.normal | apply SeqQ.ret | apply SeqQ.exit | apply BlockQ.normal | apply BlockQ.ret | apply BlockQ.here | refine zbt ?_ | apply LoopS.ret | apply LoopS.exit | apply LoopF.ret | apply LoopF.exit | apply V.regK | refine zva ?_ | refine zvb ?_ | refine zgc ?_ | refine zvd ?_ | refine zve ?_ | (refine zvf (fun h => ?_) (fun h => ?_) <;> (replace h := zB h) <;> (try (exfalso; first | exact h | omega))) | (refine FnQ.retB (resc Tryz.results11) (by simp (disch := (first | omega | exact zX | exact zO | fail)) only [cellR_op, lnL, go_sem, Nat.reduceDiv, Nat.reduceMod, Nat.reduceAdd, Nat.reduceSub, Nat.reduceEqDiff, Nat.reduceLeDiff, Nat.reduceLT, Nat.reduceMul, reduceIte, Nat.reducePow, Int.reduceEq]; rfl) ?_; (try dsimp only)))
      apply V.lpS [9, 7, 45, 46, 47, 48, 49, 50, 51, 52, 53, 54, 55, 56, 57, 58, 59, 60, 61, 62, 63, 64, 65, 66, 67] (fun k xs H3 => ∃ (q : Nat) (y : AV) (g : _) (L : List (Nat × Nat)), xs = .v (.int .i64 q) :: y :: g ∧ k = (ls.getD i []).length - q ∧ q ≤ (ls.getD i []).length ∧ Ext Hs H3 ∧ OwS H3 Hs.next 24 3 y (spE L) ∧ Up last ls L (i, q) ∧ L.length ≤ i * 2 ^ 20 + q) (ls.getD i []).length
      focus (intro xs; simp only [putMany, set2, Nat.reduceAdd, Nat.reduceDiv, Nat.reduceMod, nth_zero, nth_succ, List.set_cons_zero, List.set_cons_succ]; rfl)
      focus (first | rfl | simp only [readMany, nth_zero, nth_succ, Nat.reduceDiv, Nat.reduceMod])
      · exact ⟨0, _, _, L, rfl, rfl, Nat.zero_le _, hx, ho, hU, Nat.le_trans hLl (Nat.le_add_right _ _)⟩
      · rintro k xs H3 ⟨q, y, g, L, rfl, rfl, hq, hx, ho, hU, hLl⟩
        have hn2 := hx.next
        by_cases hql : q < (ls.getD i []).length
        · have hE := fun ys G => hEd ys G i hlt q hql
          by_cases he : edgP last (ls.getD i []) q
          · simp only [decide_eq_true he] at hE
            obtain ⟨y', H4, tr4, hap, ho', hnx, hfr, hnm⟩ := ho.push1 (ELo oc) lo' app_spot (by omega) (by omega) (by rw [spE_len]; unfold roomMax; omega) [.v (.int .i64 (i : Int)), .v (.int .i64 (q : Int)), .v (.int .i64 0)]
            have hx4 : Ext Hs H4 := ⟨by omega, fun k hk => by rw [hfr k (by omega) (fun z => by have := (ho.nm z).1; omega), hx.get k hk]⟩
            rw [← spE_add L (i, q)] at ho'
            repeat' (first | refine zka ?_ | refine zkb ?_ | (apply RKp.op; ((try simp (disch := (first | omega | exact zX | exact zO | fail)) only [lnL, ixLz, ldLz, lnC, hap, Int.toNat_natCast, go_sem, Nat.reduceDiv, Nat.reduceMod, Nat.reduceAdd, Nat.reduceSub, Nat.reduceEqDiff, Nat.reduceLeDiff, Nat.reduceLT, Nat.reduceMul, reduceIte, Nat.reducePow, Int.reduceEq]); exact zL); rfl) | (apply RKp.call; (apply hE <;> (exact zD)); rfl) | (apply RKp.callR; (apply hE <;> (exact zD)); rfl; intro tr htr) | (apply RKp.callO; (apply hE <;> (exact zD)); rfl; intro tr) | (apply RKp.callRE; (apply hE <;> (exact zD)); (intro x; rfl)) | (apply RKp.callE; (apply hE <;> (exact zD)); (intro x; rfl)) | refine zkc ?_ | apply RKg.tt | apply RKg.ff | refine zkd ?_ | refine zke ?_ | refine zkf ?_ | (refine RKg.split (fun h => ?_) (fun h => ?_) <;> (try rw [h]) <;> (replace h := zB h) <;> (try (exfalso; first | exact h | omega))) | apply RK.nil | apply V.sq | apply V.bl | apply V.sc | apply V.skip | apply V.label | apply V.ret | apply V.exit | apply SeqQ.normal | apply SeqQ.ret | apply SeqQ.exit | apply BlockQ.normal | apply BlockQ.ret | apply BlockQ.here | refine zbt ?_ | apply LoopS.ret | apply LoopS.exit | apply LoopF.ret | apply LoopF.exit | apply V.regK | refine zva ?_ | refine zvb ?_ | refine zgc ?_ | refine zvd ?_ | refine zve ?_ | (refine zvf (fun h => ?_) (fun h => ?_) <;> (replace h := zB h) <;> (try (exfalso; first | exact h | omega))) | (refine FnQ.retB (resc Tryz.results11) (by simp (disch := (first | omega | exact zX | exact zO | fail)) only [cellR_op, lnL, ixLz, ldLz, lnC, hap, Int.toNat_natCast, go_sem, Nat.reduceDiv, Nat.reduceMod, Nat.reduceAdd, Nat.reduceSub, Nat.reduceEqDiff, Nat.reduceLeDiff, Nat.reduceLT, Nat.reduceMul, reduceIte, Nat.reducePow, Int.reduceEq]; rfl) ?_; (try dsimp only)))
            exact LoopS.again ((ls.getD i []).length - (q + 1)) (by rfl) (by omega) ⟨q + 1, y', _, L ++ [(i, q)], rfl, rfl, by omega, hx4, ho', hU.add ⟨hlt, hql, he⟩, by rw [List.length_append, List.length_singleton]; omega⟩
          · simp only [decide_eq_false he] at hE
            repeat' (first | refine zka ?_ | refine zkb ?_ | (apply RKp.op; ((try simp (disch := (first | omega | exact zX | exact zO | fail)) only [lnL, ixLz, ldLz, lnC, Int.toNat_natCast, go_sem, Nat.reduceDiv, Nat.reduceMod, Nat.reduceAdd, Nat.reduceSub, Nat.reduceEqDiff, Nat.reduceLeDiff, Nat.reduceLT, Nat.reduceMul, reduceIte, Nat.reducePow, Int.reduceEq]); exact zL); rfl) | (apply RKp.call; (apply hE <;> (exact zD)); rfl) | (apply RKp.callR; (apply hE <;> (exact zD)); rfl; intro tr htr) | (apply RKp.callO; (apply hE <;> (exact zD)); rfl; intro tr) | (apply RKp.callRE; (apply hE <;> (exact zD)); (intro x; rfl)) | (apply RKp.callE; (apply hE <;> (exact zD)); (intro x; rfl)) | refine zkc ?_ | apply RKg.tt | apply RKg.ff | refine zkd ?_ | refine zke ?_ | refine zkf ?_ | (refine RKg.split (fun h => ?_) (fun h => ?_) <;> (try rw [h]) <;> (replace h := zB h) <;> (try (exfalso; first | exact h | omega))) | apply RK.nil | apply V.sq | apply V.bl | apply V.sc | apply V.skip | apply V.label | apply V.ret | apply V.exit | apply SeqQ.normal | apply SeqQ.ret | apply SeqQ.exit | apply BlockQ.normal | apply BlockQ.ret | apply BlockQ.here | refine zbt ?_ | apply LoopS.ret | apply LoopS.exit | apply LoopF.ret | apply LoopF.exit | apply V.regK | refine zva ?_ | refine zvb ?_ | refine zgc ?_ | refine zvd ?_ | refine zve ?_ | (refine zvf (fun h => ?_) (fun h => ?_) <;> (replace h := zB h) <;> (try (exfalso; first | exact h | omega))) | (refine FnQ.retB (resc Tryz.results11) (by simp (disch := (first | omega | exact zX | exact zO | fail)) only [cellR_op, lnL, ixLz, ldLz, lnC, Int.toNat_natCast, go_sem, Nat.reduceDiv, Nat.reduceMod, Nat.reduceAdd, Nat.reduceSub, Nat.reduceEqDiff, Nat.reduceLeDiff, Nat.reduceLT, Nat.reduceMul, reduceIte, Nat.reducePow, Int.reduceEq]; rfl) ?_; (try dsimp only)))
            exact LoopS.again ((ls.getD i []).length - (q + 1)) (by rfl) (by omega) ⟨q + 1, y, _, L, rfl, rfl, by omega, hx, ho, hU.skip (fun z => he z.2.2), by omega⟩
        · repeat' (first | refine zka ?_ | refine zkb ?_ | (apply RKp.op; ((try simp (disch := (first | omega | exact zX | exact zO | fail)) only [lnL, ixLz, ldLz, lnC, Int.toNat_natCast, go_sem, Nat.reduceDiv, Nat.reduceMod, Nat.reduceAdd, Nat.reduceSub, Nat.reduceEqDiff, Nat.reduceLeDiff, Nat.reduceLT, Nat.reduceMul, reduceIte, Nat.reducePow, Int.reduceEq]); exact zL); rfl) | refine zkc ?_ | apply RKg.tt | apply RKg.ff | refine zkd ?_ | refine zke ?_ | refine zkf ?_ | (refine RKg.split (fun h => ?_) (fun h => ?_) <;> (try rw [h]) <;> (replace h := zB h) <;> (try (exfalso; first | exact h | omega))) | apply RK.nil | apply V.sq | apply V.bl | apply V.sc | apply V.skip | apply V.label | apply V.ret | apply V.exit | apply SeqQ.normal | apply SeqQ.ret | apply SeqQ.exit | apply BlockQ.normal | apply BlockQ.ret | apply BlockQ.here | refine zbt ?_ | apply LoopS.ret | apply LoopS.exit | apply LoopF.ret | apply LoopF.exit | apply V.regK | refine zva ?_ | refine zvb ?_ | refine zgc ?_ | refine zvd ?_ | refine zve ?_ | (refine zvf (fun h => ?_) (fun h => ?_) <;> (replace h := zB h) <;> (try (exfalso; first | exact h | omega))) | (refine FnQ.retB (resc Tryz.results11) (by simp (disch := (first | omega | exact zX | exact zO | fail)) only [cellR_op, lnL, ixLz, ldLz, lnC, Int.toNat_natCast, go_sem, Nat.reduceDiv, Nat.reduceMod, Nat.reduceAdd, Nat.reduceSub, Nat.reduceEqDiff, Nat.reduceLeDiff, Nat.reduceLT, Nat.reduceMul, reduceIte, Nat.reducePow, Int.reduceEq]; rfl) ?_; (try dsimp only)))
          exact LoopS.again (ls.length - (i + 1)) (by rfl) (by omega) ⟨i + 1, y, _, L, rfl, rfl, by omega, hx, ho, hU.row (by omega), by omega⟩
    ·
      have hil : i = ls.length := by omega
      subst hil
      have g0 : H2.get H'.next = some (spB (s.1 : Nat) (s.2 : Nat) p) := by rw [hx.get _ (by omega)]; exact g00
      have g1 : H2.get (H'.next + 1) = some (spB 0 0 0) := by rw [hx.get _ (by omega)]; exact g10
      have hLb : L.length < 2 ^ 40 := by
        have : ls.length * 2 ^ 20 ≤ 2 ^ 20 * 2 ^ 20 := Nat.mul_le_mul_right _ (by omega)
        omega
      have hy := ho.slh
      have lnY : primL lo' H2 (builtinA (ELo oc) .len #[34] 3 [y]) = some (.v (.int .i64 L.length), H2, rdTr y) := by
        have := len_SlH (ELo oc) lo' 34 3 hy (by kernel_rfl)
        rw [spE_len] at this; exact this
      have ixY : ∀ (z : Int), 0 ≤ z → z < L.length → primL lo' H2 (indexAddrA (ELo oc) 34 y (.v (.int .i64 z))) = some (ixA y (spE L) z.toNat, H2, rdTr y) := fun z z0 z1 => ix_SlH (ELo oc) lo' 34 .i64 z hy (by kernel_rfl) z0 (by rw [spE_len]; exact z1)
      have ldY : ∀ j, j < L.length → primL lo' H2 (loadA (ELo oc) 24 (ixA y (spE L) j)) = some (.agg [.v (.int .i64 ((L.getD j (0, 0)).1 : Int)), .v (.int .i64 ((L.getD j (0, 0)).2 : Int)), .v (.int .i64 0)], H2, rdTr y) := fun j hj => by
        rw [load_SlH (ELo oc) lo' 24 j hy (by rw [spE_len]; exact hj), nth_spE L j hj]; rfl
      repeat' (first | refine zka ?_ | refine zkb ?_ | (apply RKp.op; ((try simp (disch := (first | omega | exact zX | exact zO | fail)) only [lnL, go_sem, Nat.reduceDiv, Nat.reduceMod, Nat.reduceAdd, Nat.reduceSub, Nat.reduceEqDiff, Nat.reduceLeDiff, Nat.reduceLT, Nat.reduceMul, reduceIte, Nat.reducePow, Int.reduceEq]); exact zL); rfl) | refine zkc ?_ | apply RKg.tt | apply RKg.ff | refine zkd ?_ | refine zke ?_ | refine zkf ?_ | (refine RKg.split (fun h => ?_) (fun h => ?_) <;> (try rw [h]) <;> (replace h := zB h) <;> (try (exfalso; first | exact h | omega))) | apply RK.nil | apply V.sq | apply V.bl | apply V.sc | apply V.skip | apply V.label | apply V.ret | apply V.exit | apply SeqQ.normal | apply SeqQ.ret | apply SeqQ.exit | apply BlockQ.normal | apply BlockQ.ret | apply BlockQ.here | refine zbt ?_ | apply LoopS.ret | apply LoopS.exit | apply LoopF.ret | apply LoopF.exit | apply V.regK | refine zva ?_ | refine zvb ?_ | refine zgc ?_ | refine zvd ?_ | refine zve ?_ | (refine zvf (fun h => ?_) (fun h => ?_) <;> (replace h := zB h) <;> (try (exfalso; first | exact h | omega))) | (refine FnQ.retB (resc Tryz.results11) (by simp (disch := (first | omega | exact zX | exact zO | fail)) only [cellR_op, lnL, go_sem, Nat.reduceDiv, Nat.reduceMod, Nat.reduceAdd, Nat.reduceSub, Nat.reduceEqDiff, Nat.reduceLeDiff, Nat.reduceLT, Nat.reduceMul, reduceIte, Nat.reducePow, Int.reduceEq]; rfl) ?_; (try dsimp only)))
      apply V.lpF [11, 88, 89, 90, 91, 92, 93, 94, 95, 96, 97, 98, 99, 100, 101, 102, 103] (fun k xs => ∃ (q : Nat) (g : _), xs = .v (.int .i64 q) :: g ∧ k = L.length - q ∧ q ≤ L.length ∧ ∀ j, j < q → ¬ ltP s (L.getD j (0, 0))) L.length
      focus (intro xs; simp only [putMany, set2, Nat.reduceAdd, Nat.reduceDiv, Nat.reduceMod, nth_zero, nth_succ, List.set_cons_zero, List.set_cons_succ]; rfl)
      focus (first | rfl | simp only [readMany, nth_zero, nth_succ, Nat.reduceDiv, Nat.reduceMod])
      · exact ⟨0, _, rfl, rfl, Nat.zero_le _, fun j h => absurd h (Nat.not_lt_zero _)⟩
      · rintro k xs ⟨q, g, rfl, rfl, hq, hno⟩
        by_cases hql : q < L.length
        · have hB := fun ys G => before_run (ys := ys) (lo := lo') (H := G) (s.1 : Nat) (s.2 : Nat) p ((L.getD q (0, 0)).1 : Nat) ((L.getD q (0, 0)).2 : Nat) 0
          by_cases hb : ltP s (L.getD q (0, 0))
          · have hb2 : ((s.1 : Int) < ((L.getD q (0, 0)).1 : Nat) ∨ (s.1 : Int) = ((L.getD q (0, 0)).1 : Nat) ∧ (s.2 : Int) < ((L.getD q (0, 0)).2 : Nat)) := by unfold ltP at hb; omega
            simp only [decide_eq_true hb2] at hB
            repeat' (first | refine zka ?_ | refine zkb ?_ | (apply RKp.op; ((try simp (disch := (first | omega | exact zX | exact zO | fail)) only [lnY, ixY, ldY, g0, g1, Int.toNat_natCast, go_sem, Nat.reduceDiv, Nat.reduceMod, Nat.reduceAdd, Nat.reduceSub, Nat.reduceEqDiff, Nat.reduceLeDiff, Nat.reduceLT, Nat.reduceMul, reduceIte, Nat.reducePow, Int.reduceEq]); exact zL); rfl) | (apply RKp.callR; (apply hB <;> (exact zD)); rfl; intro tr htr) | refine zkc ?_ | apply RKg.tt | apply RKg.ff | refine zkd ?_ | refine zke ?_ | refine zkf ?_ | (refine RKg.split (fun h => ?_) (fun h => ?_) <;> (try rw [h]) <;> (replace h := zB h) <;> (try (exfalso; first | exact h | omega))) | apply RK.nil | apply V.sq | apply V.bl | apply V.sc | apply V.skip | apply V.label | apply V.ret | apply V.exit | apply SeqQ.normal | apply SeqQ.ret | apply SeqQ.exit | apply BlockQ.normal | apply BlockQ.ret | apply BlockQ.here | refine zbt ?_ | apply LoopS.ret | apply LoopS.exit | apply LoopF.ret | apply LoopF.exit | apply V.regK | refine zva ?_ | refine zvb ?_ | refine zgc ?_ | refine zvd ?_ | refine zve ?_ | (refine zvf (fun h => ?_) (fun h => ?_) <;> (replace h := zB h) <;> (try (exfalso; first | exact h | omega))) | (refine FnQ.retB (resc Tryz.results11) (by simp (disch := (first | omega | exact zX | exact zO | fail)) only [cellR_op, lnY, ixY, ldY, g0, g1, Int.toNat_natCast, go_sem, Nat.reduceDiv, Nat.reduceMod, Nat.reduceAdd, Nat.reduceSub, Nat.reduceEqDiff, Nat.reduceLeDiff, Nat.reduceLT, Nat.reduceMul, reduceIte, Nat.reducePow, Int.reduceEq]; rfl) ?_; (try dsimp only)))
            all_goals first
              | (exfalso; omega)
              | skip
            refine ⟨L.getD q (0, 0), by simp only [frzR_agg, List.map_cons, List.map_nil, frzC_v, spotA], .inl ⟨hU.at_ hql, hb, fun e h1 h2 h3 => ?_⟩⟩
            obtain ⟨j, hj, rfl⟩ := hU.has h1
            rcases Nat.lt_or_ge j q with z | z
            · exact hno j z h2
            · rcases Nat.eq_or_lt_of_le z with z | z
              · subst z; unfold ltP at h3; omega
              · have := hU.lt z hj
                unfold ltP at this h3; omega
          · have hb2 : ¬ ((s.1 : Int) < ((L.getD q (0, 0)).1 : Nat) ∨ (s.1 : Int) = ((L.getD q (0, 0)).1 : Nat) ∧ (s.2 : Int) < ((L.getD q (0, 0)).2 : Nat)) := by unfold ltP at hb; omega
            simp only [decide_eq_false hb2] at hB
            repeat' (first | refine zka ?_ | refine zkb ?_ | (apply RKp.op; ((try simp (disch := (first | omega | exact zX | exact zO | fail)) only [lnY, ixY, ldY, g0, g1, Int.toNat_natCast, go_sem, Nat.reduceDiv, Nat.reduceMod, Nat.reduceAdd, Nat.reduceSub, Nat.reduceEqDiff, Nat.reduceLeDiff, Nat.reduceLT, Nat.reduceMul, reduceIte, Nat.reducePow, Int.reduceEq]); exact zL); rfl) | (apply RKp.callR; (apply hB <;> (exact zD)); rfl; intro tr htr) | refine zkc ?_ | apply RKg.tt | apply RKg.ff | refine zkd ?_ | refine zke ?_ | refine zkf ?_ | (refine RKg.split (fun h => ?_) (fun h => ?_) <;> (try rw [h]) <;> (replace h := zB h) <;> (try (exfalso; first | exact h | omega))) | apply RK.nil | apply V.sq | apply V.bl | apply V.sc | apply V.skip | apply V.label | apply V.ret | apply V.exit | apply SeqQ.normal | apply SeqQ.ret | apply SeqQ.exit | apply BlockQ.normal | apply BlockQ.ret | apply BlockQ.here | refine zbt ?_ | apply LoopS.ret | apply LoopS.exit | apply LoopF.ret | apply LoopF.exit | apply V.regK | refine zva ?_ | refine zvb ?_ | refine zgc ?_ | refine zvd ?_ | refine zve ?_ | (refine zvf (fun h => ?_) (fun h => ?_) <;> (replace h := zB h) <;> (try (exfalso; first | exact h | omega))) | (refine FnQ.retB (resc Tryz.results11) (by simp (disch := (first | omega | exact zX | exact zO | fail)) only [cellR_op, lnY, ixY, ldY, g0, g1, Int.toNat_natCast, go_sem, Nat.reduceDiv, Nat.reduceMod, Nat.reduceAdd, Nat.reduceSub, Nat.reduceEqDiff, Nat.reduceLeDiff, Nat.reduceLT, Nat.reduceMul, reduceIte, Nat.reducePow, Int.reduceEq]; rfl) ?_; (try dsimp only)))
            all_goals first
              | (exfalso; omega)
              | skip
            refine LoopF.again (L.length - (q + 1)) (by rfl) (by omega) ⟨q + 1, _, rfl, rfl, by omega, fun j h1 => ?_⟩
            rcases Nat.lt_or_ge j q with z | z
            · exact hno j z
            · have : j = q := by omega
              subst this; exact hb
        · have hz : 0 < ls.length := by omega
          have hE1 : ((ls.length : Int) - 1).toNat = ls.length - 1 := by omega
          have hl9 := hln (ls.length - 1) (by omega)
          have lnE := fun G => lnC G (ls.length - 1) (by omega)
          repeat' (first | refine zka ?_ | refine zkb ?_ | (apply RKp.op; ((try simp (disch := (first | omega | exact zX | exact zO | fail)) only [lnY, lnL, ixLz, ldLz, lnE, hE1, g0, g1, Int.toNat_natCast, go_sem, Nat.reduceDiv, Nat.reduceMod, Nat.reduceAdd, Nat.reduceSub, Nat.reduceEqDiff, Nat.reduceLeDiff, Nat.reduceLT, Nat.reduceMul, reduceIte, Nat.reducePow, Int.reduceEq]); exact zL); rfl) | refine zkc ?_ | apply RKg.tt | apply RKg.ff | refine zkd ?_ | refine zke ?_ | refine zkf ?_ | (refine RKg.split (fun h => ?_) (fun h => ?_) <;> (try rw [h]) <;> (replace h := zB h) <;> (try (exfalso; first | exact h | omega))) | apply RK.nil | apply V.sq | apply V.bl | apply V.sc | apply V.skip | apply V.label | apply V.ret | apply V.exit | apply SeqQ.normal | apply SeqQ.ret | apply SeqQ.exit | apply BlockQ.normal | apply BlockQ.ret | apply BlockQ.here | refine zbt ?_ | apply LoopS.ret | apply LoopS.exit | apply LoopF.ret | apply LoopF.exit | apply V.regK | refine zva ?_ | refine zvb ?_ | refine zgc ?_ | refine zvd ?_ | refine zve ?_ | (refine zvf (fun h => ?_) (fun h => ?_) <;> (replace h := zB h) <;> (try (exfalso; first | exact h | omega))) | (refine FnQ.retB (resc Tryz.results11) (by simp (disch := (first | omega | exact zX | exact zO | fail)) only [cellR_op, lnY, lnL, ixLz, ldLz, lnE, hE1, g0, g1, Int.toNat_natCast, go_sem, Nat.reduceDiv, Nat.reduceMod, Nat.reduceAdd, Nat.reduceSub, Nat.reduceEqDiff, Nat.reduceLeDiff, Nat.reduceLT, Nat.reduceMul, reduceIte, Nat.reducePow, Int.reduceEq]; rfl) ?_; (try dsimp only)))
          all_goals first
            | (exfalso; omega)
            | skip
          refine ⟨endS ls, by simp only [frzR_agg, List.map_cons, List.map_nil, frzC_v, spotA, endS]; congr; omega, .inr ⟨fun e h1 h2 => ?_, rfl⟩⟩
          obtain ⟨j, hj, rfl⟩ := hU.has h1
          exact hno j (by omega) h2
theorem refWordP_run (hA : Sl 1 A es) (hr : LsP es ls) (hls : ls.length < 2 ^ 20) (hln : ∀ j, j < ls.length → (ls.getD j []).length < 2 ^ 20) (s : Nat × Nat) (p : Int) (hs1 : s.1 < ls.length) (hs2 : s.2 ≤ (ls.getD s.1 []).length) : CallRoE (ELo oc) ys lo 11 [A, .agg [.v (.int .i64 (s.1 : Nat)), .v (.int .i64 (s.2 : Nat)), .v (.int .i64 p)], .v (.int .i64 2)] H fun x => ∃ r, x = spotA r ∧ IsPrev ls s r := by
  refine WC.pureE rfl fun lo' H' hh => ?_
  have hlo := lo_two hh
  have hz1 : rdTr A = ⟨0, 0, 0⟩ := by rcases hA with rfl | ⟨_, rfl | rfl⟩ <;> rfl
  have lnL : ∀ G, primL lo' G (builtinA (ELo oc) .len #[22] 3 [A]) = some (.v (.int .i64 ls.length), G, ⟨0, 0, 0⟩) := fun G => by rw [lenL lo' (.inl hA) hr G (Ext.refl _), hz1]
  have ixLz : ∀ G (z : Int), 0 ≤ z → z < ls.length → primL lo' G (indexAddrA (ELo oc) 22 A (.v (.int .i64 z))) = some (ixA A es z.toNat, G, ⟨0, 0, 0⟩) := fun G z z0 z1 => by rw [ixL lo' (.inl hA) hr G (Ext.refl _) .i64 z z0 z1, hz1]
  have ldLz : ∀ G j, j < ls.length → primL lo' G (loadA (ELo oc) 33 (ixA A es j)) = some (bOf es j, G, ⟨0, 0, 0⟩) := fun G j hj => by rw [ldL lo' (.inl hA) hr G (Ext.refl _) j hj, hz1]
  have lnC : ∀ G j, j < ls.length → primL lo' G (builtinA (ELo oc) .len #[33] 3 [bOf es j]) = some (.v (.int .i64 (ls.getD j []).length), G, ⟨0, 0, 0⟩) := fun G j hj => by
    have hs := hr.sl j hj
    rw [len_cell lo' (.inl hs)]
    have : rdTr (bOf es j) = ⟨0, 0, 0⟩ := by rcases hs with h | ⟨_, h | h⟩ <;> rw [h] <;> rfl
    rw [this]
  have lnA := fun G => lnC G s.1 hs1
  obtain ⟨last, hlast⟩ : ∃ last, last = false := ⟨_, rfl⟩
  have hEd := fun ys G j hj i hi => edgeB_run (ys := ys) (lo := lo') (H := G) (A := bOf es j) (l := ls.getD j []) (hr.sl j hj) (hr.lt j hj) i hi
  have hl1 := hln s.1 hs1
  have hEd : ∀ ys G j (hj : j < ls.length) i (hi : i < (ls.getD j []).length), CallRo (ELo oc) ys lo' 24 [bOf es j, .v (.int .i64 (i : Int)), .v (.bool false)] G (.v (.bool (decide (edgP last (ls.getD j []) i)))) := fun ys G j hj i hi => by rw [hlast]; exact hEd ys G j hj i hi
  refine zvin Tryz.func11 Tryz.ntmps11 ?_
  repeat' (first | refine zka ?_ | refine zkb ?_ | (apply RKp.op; ((try simp (disch := (first | omega | exact zX | exact zO | fail)) only [lnL, ixLz, ldLz, lnA, Int.toNat_natCast, go_sem, Nat.reduceDiv, Nat.reduceMod, Nat.reduceAdd, Nat.reduceSub, Nat.reduceEqDiff, Nat.reduceLeDiff, Nat.reduceLT, Nat.reduceMul, reduceIte, Nat.reducePow, Int.reduceEq]); exact zL); rfl) | refine zkc ?_ | apply RKg.tt | apply RKg.ff | refine zkd ?_ | refine zke ?_ | refine zkf ?_ | (refine RKg.split (fun h => ?_) (fun h => ?_) <;> (try rw [h]) <;> (replace h := zB h) <;> (try (exfalso; first | exact h | omega))) | apply RK.nil | apply V.sq | apply V.bl | apply V.sc | apply V.skip | apply V.label | apply V.ret | apply V.exit | apply SeqQ.normal | apply SeqQ.ret | apply SeqQ.exit | apply BlockQ.normal | apply BlockQ.ret | apply BlockQ.here | refine zbt ?_ | apply LoopS.ret | apply LoopS.exit | apply LoopF.ret | apply LoopF.exit | apply V.regK | refine zva ?_ | refine zvb ?_ | refine zgc ?_ | refine zvd ?_ | refine zve ?_ | (refine zvf (fun h => ?_) (fun h => ?_) <;> (replace h := zB h) <;> (try (exfalso; first | exact h | omega))) | (refine FnQ.retB (resc Tryz.results11) (by simp (disch := (first | omega | exact zX | exact zO | fail)) only [cellR_op, lnL, ixLz, ldLz, lnA, Int.toNat_natCast, go_sem, Nat.reduceDiv, Nat.reduceMod, Nat.reduceAdd, Nat.reduceSub, Nat.reduceEqDiff, Nat.reduceLeDiff, Nat.reduceLT, Nat.reduceMul, reduceIte, Nat.reducePow, Int.reduceEq]; rfl) ?_; (try dsimp only)))
  all_goals first
    | (exfalso; omega)
    | skip
  generalize hHs : (H'.push (spB (s.1 : Nat) (s.2 : Nat) p)).push (spB 0 0 0) = Hs
  have n0 : Hs.next = H'.next + 2 := by rw [← hHs]; rfl
  have g00 : Hs.get H'.next = some (spB (s.1 : Nat) (s.2 : Nat) p) := by rw [← hHs]; simp (disch := (first | omega | exact zX | fail)) only [get_set, get_push, next_push, next_set, if_pos', if_neg', if_true, if_false, reduceIte]
  have g10 : Hs.get (H'.next + 1) = some (spB 0 0 0) := by rw [← hHs]; simp (disch := (first | omega | exact zX | fail)) only [get_set, get_push, next_push, next_set, if_pos', if_neg', if_true, if_false, reduceIte]
  apply V.lpS [8, 7, 9, 39, 40, 41, 42, 43, 44, 45, 46, 47, 48, 49, 50, 51, 52, 53, 54, 55, 56, 57, 58, 59, 60, 61, 62, 63, 64, 65, 66, 67] (fun k xs H2 => ∃ (i : Nat) (y : AV) (g : _) (L : List (Nat × Nat)), xs = .v (.int .i64 i) :: y :: g ∧ k = ls.length - i ∧ i ≤ ls.length ∧ Ext Hs H2 ∧ OwS H2 Hs.next 24 3 y (spE L) ∧ Up last ls L (i, 0) ∧ L.length ≤ i * 2 ^ 20) ls.length
  focus (intro xs; simp only [putMany, set2, Nat.reduceAdd, Nat.reduceDiv, Nat.reduceMod, nth_zero, nth_succ, List.set_cons_zero, List.set_cons_succ]; rfl)
  focus (first | rfl | simp only [readMany, nth_zero, nth_succ, Nat.reduceDiv, Nat.reduceMod])
  ·
    refine ⟨0, _, _, [], rfl, rfl, Nat.zero_le _, Ext.refl _, OwS.nil _ _ _ _, Up.nil, Nat.zero_le _⟩
  ·
    rintro k xs H2 ⟨i, y, g, L, rfl, rfl, hi, hx, ho, hU, hLl⟩
    by_cases hlt : i < ls.length
    ·
      have hli := hln i hlt
      repeat' (first | refine zka ?_ | refine zkb ?_ | (apply RKp.op; ((try simp (disch := (first | omega | exact zX | exact zO | fail)) only [lnL, go_sem, Nat.reduceDiv, Nat.reduceMod, Nat.reduceAdd, Nat.reduceSub, Nat.reduceEqDiff, Nat.reduceLeDiff, Nat.reduceLT, Nat.reduceMul, reduceIte, Nat.reducePow, Int.reduceEq]); exact zL); rfl) | refine zkc ?_ | apply RKg.tt | apply RKg.ff | refine zkd ?_ | refine zke ?_ | refine zkf ?_ | (refine RKg.split (fun h => ?_) (fun h => ?_) <;> (try rw [h]) <;> (replace h := zB h) <;> (try (exfalso; first | exact h | omega))) | apply RK.nil | apply V.sq | apply V.bl | apply V.sc | apply V.skip | apply V.label | apply V.ret | apply V.exit | apply SeqQ.normal | apply SeqQ.ret | apply SeqQ.exit | apply BlockQ.normal | apply BlockQ.ret | apply BlockQ.here | refine zbt ?_ | apply LoopS.ret | apply LoopS.exit | apply LoopF.ret | apply LoopF.exit | apply V.regK | refine zva ?_ | refine zvb ?_ | refine zgc ?_ | refine zvd ?_ | refine zve ?_ | (refine zvf (fun h => ?_) (fun h => ?_) <;> (replace h := zB h) <;> (try (exfalso; first | exact h | omega))) | (refine FnQ.retB (resc Tryz.results11) (by simp (disch := (first | omega | exact zX | exact zO | fail)) only [cellR_op, lnL, go_sem, Nat.reduceDiv, Nat.reduceMod, Nat.reduceAdd, Nat.reduceSub, Nat.reduceEqDiff, Nat.reduceLeDiff, Nat.reduceLT, Nat.reduceMul, reduceIte, Nat.reducePow, Int.reduceEq]; rfl) ?_; (try dsimp only)))
      apply V.lpS [9, 7, 45, 46, 47, 48, 49, 50, 51, 52, 53, 54, 55, 56, 57, 58, 59, 60, 61, 62, 63, 64, 65, 66, 67] (fun k xs H3 => ∃ (q : Nat) (y : AV) (g : _) (L : List (Nat × Nat)), xs = .v (.int .i64 q) :: y :: g ∧ k = (ls.getD i []).length - q ∧ q ≤ (ls.getD i []).length ∧ Ext Hs H3 ∧ OwS H3 Hs.next 24 3 y (spE L) ∧ Up last ls L (i, q) ∧ L.length ≤ i * 2 ^ 20 + q) (ls.getD i []).length
      focus (intro xs; simp only [putMany, set2, Nat.reduceAdd, Nat.reduceDiv, Nat.reduceMod, nth_zero, nth_succ, List.set_cons_zero, List.set_cons_succ]; rfl)
      focus (first | rfl | simp only [readMany, nth_zero, nth_succ, Nat.reduceDiv, Nat.reduceMod])
      · exact ⟨0, _, _, L, rfl, rfl, Nat.zero_le _, hx, ho, hU, Nat.le_trans hLl (Nat.le_add_right _ _)⟩
      · rintro k xs H3 ⟨q, y, g, L, rfl, rfl, hq, hx, ho, hU, hLl⟩
        have hn2 := hx.next
        by_cases hql : q < (ls.getD i []).length
        · have hE := fun ys G => hEd ys G i hlt q hql
          by_cases he : edgP last (ls.getD i []) q
          · simp only [decide_eq_true he] at hE
            obtain ⟨y', H4, tr4, hap, ho', hnx, hfr, hnm⟩ := ho.push1 (ELo oc) lo' app_spot (by omega) (by omega) (by rw [spE_len]; unfold roomMax; omega) [.v (.int .i64 (i : Int)), .v (.int .i64 (q : Int)), .v (.int .i64 0)]
            have hx4 : Ext Hs H4 := ⟨by omega, fun k hk => by rw [hfr k (by omega) (fun z => by have := (ho.nm z).1; omega), hx.get k hk]⟩
            rw [← spE_add L (i, q)] at ho'
            repeat' (first | refine zka ?_ | refine zkb ?_ | (apply RKp.op; ((try simp (disch := (first | omega | exact zX | exact zO | fail)) only [lnL, ixLz, ldLz, lnC, hap, Int.toNat_natCast, go_sem, Nat.reduceDiv, Nat.reduceMod, Nat.reduceAdd, Nat.reduceSub, Nat.reduceEqDiff, Nat.reduceLeDiff, Nat.reduceLT, Nat.reduceMul, reduceIte, Nat.reducePow, Int.reduceEq]); exact zL); rfl) | (apply RKp.call; (apply hE <;> (exact zD)); rfl) | (apply RKp.callR; (apply hE <;> (exact zD)); rfl; intro tr htr) | (apply RKp.callO; (apply hE <;> (exact zD)); rfl; intro tr) | (apply RKp.callRE; (apply hE <;> (exact zD)); (intro x; rfl)) | (apply RKp.callE; (apply hE <;> (exact zD)); (intro x; rfl)) | refine zkc ?_ | apply RKg.tt | apply RKg.ff | refine zkd ?_ | refine zke ?_ | refine zkf ?_ | (refine RKg.split (fun h => ?_) (fun h => ?_) <;> (try rw [h]) <;> (replace h := zB h) <;> (try (exfalso; first | exact h | omega))) | apply RK.nil | apply V.sq | apply V.bl | apply V.sc | apply V.skip | apply V.label | apply V.ret | apply V.exit | apply SeqQ.normal | apply SeqQ.ret | apply SeqQ.exit | apply BlockQ.normal | apply BlockQ.ret | apply BlockQ.here | refine zbt ?_ | apply LoopS.ret | apply LoopS.exit | apply LoopF.ret | apply LoopF.exit | apply V.regK | refine zva ?_ | refine zvb ?_ | refine zgc ?_ | refine zvd ?_ | refine zve ?_ | (refine zvf (fun h => ?_) (fun h => ?_) <;> (replace h := zB h) <;> (try (exfalso; first | exact h | omega))) | (refine FnQ.retB (resc Tryz.results11) (by simp (disch := (first | omega | exact zX | exact zO | fail)) only [cellR_op, lnL, ixLz, ldLz, lnC, hap, Int.toNat_natCast, go_sem, Nat.reduceDiv, Nat.reduceMod, Nat.reduceAdd, Nat.reduceSub, Nat.reduceEqDiff, Nat.reduceLeDiff, Nat.reduceLT, Nat.reduceMul, reduceIte, Nat.reducePow, Int.reduceEq]; rfl) ?_; (try dsimp only)))
            exact LoopS.again ((ls.getD i []).length - (q + 1)) (by rfl) (by omega) ⟨q + 1, y', _, L ++ [(i, q)], rfl, rfl, by omega, hx4, ho', hU.add ⟨hlt, hql, he⟩, by rw [List.length_append, List.length_singleton]; omega⟩
          · simp only [decide_eq_false he] at hE
            repeat' (first | refine zka ?_ | refine zkb ?_ | (apply RKp.op; ((try simp (disch := (first | omega | exact zX | exact zO | fail)) only [lnL, ixLz, ldLz, lnC, Int.toNat_natCast, go_sem, Nat.reduceDiv, Nat.reduceMod, Nat.reduceAdd, Nat.reduceSub, Nat.reduceEqDiff, Nat.reduceLeDiff, Nat.reduceLT, Nat.reduceMul, reduceIte, Nat.reducePow, Int.reduceEq]); exact zL); rfl) | (apply RKp.call; (apply hE <;> (exact zD)); rfl) | (apply RKp.callR; (apply hE <;> (exact zD)); rfl; intro tr htr) | (apply RKp.callO; (apply hE <;> (exact zD)); rfl; intro tr) | (apply RKp.callRE; (apply hE <;> (exact zD)); (intro x; rfl)) | (apply RKp.callE; (apply hE <;> (exact zD)); (intro x; rfl)) | refine zkc ?_ | apply RKg.tt | apply RKg.ff | refine zkd ?_ | refine zke ?_ | refine zkf ?_ | (refine RKg.split (fun h => ?_) (fun h => ?_) <;> (try rw [h]) <;> (replace h := zB h) <;> (try (exfalso; first | exact h | omega))) | apply RK.nil | apply V.sq | apply V.bl | apply V.sc | apply V.skip | apply V.label | apply V.ret | apply V.exit | apply SeqQ.normal | apply SeqQ.ret | apply SeqQ.exit | apply BlockQ.normal | apply BlockQ.ret | apply BlockQ.here | refine zbt ?_ | apply LoopS.ret | apply LoopS.exit | apply LoopF.ret | apply LoopF.exit | apply V.regK | refine zva ?_ | refine zvb ?_ | refine zgc ?_ | refine zvd ?_ | refine zve ?_ | (refine zvf (fun h => ?_) (fun h => ?_) <;> (replace h := zB h) <;> (try (exfalso; first | exact h | omega))) | (refine FnQ.retB (resc Tryz.results11) (by simp (disch := (first | omega | exact zX | exact zO | fail)) only [cellR_op, lnL, ixLz, ldLz, lnC, Int.toNat_natCast, go_sem, Nat.reduceDiv, Nat.reduceMod, Nat.reduceAdd, Nat.reduceSub, Nat.reduceEqDiff, Nat.reduceLeDiff, Nat.reduceLT, Nat.reduceMul, reduceIte, Nat.reducePow, Int.reduceEq]; rfl) ?_; (try dsimp only)))
            exact LoopS.again ((ls.getD i []).length - (q + 1)) (by rfl) (by omega) ⟨q + 1, y, _, L, rfl, rfl, by omega, hx, ho, hU.skip (fun z => he z.2.2), by omega⟩
        · repeat' (first | refine zka ?_ | refine zkb ?_ | (apply RKp.op; ((try simp (disch := (first | omega | exact zX | exact zO | fail)) only [lnL, ixLz, ldLz, lnC, Int.toNat_natCast, go_sem, Nat.reduceDiv, Nat.reduceMod, Nat.reduceAdd, Nat.reduceSub, Nat.reduceEqDiff, Nat.reduceLeDiff, Nat.reduceLT, Nat.reduceMul, reduceIte, Nat.reducePow, Int.reduceEq]); exact zL); rfl) | refine zkc ?_ | apply RKg.tt | apply RKg.ff | refine zkd ?_ | refine zke ?_ | refine zkf ?_ | (refine RKg.split (fun h => ?_) (fun h => ?_) <;> (try rw [h]) <;> (replace h := zB h) <;> (try (exfalso; first | exact h | omega))) | apply RK.nil | apply V.sq | apply V.bl | apply V.sc | apply V.skip | apply V.label | apply V.ret | apply V.exit | apply SeqQ.normal | apply SeqQ.ret | apply SeqQ.exit | apply BlockQ.normal | apply BlockQ.ret | apply BlockQ.here | refine zbt ?_ | apply LoopS.ret | apply LoopS.exit | apply LoopF.ret | apply LoopF.exit | apply V.regK | refine zva ?_ | refine zvb ?_ | refine zgc ?_ | refine zvd ?_ | refine zve ?_ | (refine zvf (fun h => ?_) (fun h => ?_) <;> (replace h := zB h) <;> (try (exfalso; first | exact h | omega))) | (refine FnQ.retB (resc Tryz.results11) (by simp (disch := (first | omega | exact zX | exact zO | fail)) only [cellR_op, lnL, ixLz, ldLz, lnC, Int.toNat_natCast, go_sem, Nat.reduceDiv, Nat.reduceMod, Nat.reduceAdd, Nat.reduceSub, Nat.reduceEqDiff, Nat.reduceLeDiff, Nat.reduceLT, Nat.reduceMul, reduceIte, Nat.reducePow, Int.reduceEq]; rfl) ?_; (try dsimp only)))
          exact LoopS.again (ls.length - (i + 1)) (by rfl) (by omega) ⟨i + 1, y, _, L, rfl, rfl, by omega, hx, ho, hU.row (by omega), by omega⟩
    ·
      have hil : i = ls.length := by omega
      subst hil
      have g0 : H2.get H'.next = some (spB (s.1 : Nat) (s.2 : Nat) p) := by rw [hx.get _ (by omega)]; exact g00
      have g1 : H2.get (H'.next + 1) = some (spB 0 0 0) := by rw [hx.get _ (by omega)]; exact g10
      have hLb : L.length < 2 ^ 40 := by
        have : ls.length * 2 ^ 20 ≤ 2 ^ 20 * 2 ^ 20 := Nat.mul_le_mul_right _ (by omega)
        omega
      have hy := ho.slh
      have lnY : primL lo' H2 (builtinA (ELo oc) .len #[34] 3 [y]) = some (.v (.int .i64 L.length), H2, rdTr y) := by
        have := len_SlH (ELo oc) lo' 34 3 hy (by kernel_rfl)
        rw [spE_len] at this; exact this
      have ixY : ∀ (z : Int), 0 ≤ z → z < L.length → primL lo' H2 (indexAddrA (ELo oc) 34 y (.v (.int .i64 z))) = some (ixA y (spE L) z.toNat, H2, rdTr y) := fun z z0 z1 => ix_SlH (ELo oc) lo' 34 .i64 z hy (by kernel_rfl) z0 (by rw [spE_len]; exact z1)
      have ldY : ∀ j, j < L.length → primL lo' H2 (loadA (ELo oc) 24 (ixA y (spE L) j)) = some (.agg [.v (.int .i64 ((L.getD j (0, 0)).1 : Int)), .v (.int .i64 ((L.getD j (0, 0)).2 : Int)), .v (.int .i64 0)], H2, rdTr y) := fun j hj => by
        rw [load_SlH (ELo oc) lo' 24 j hy (by rw [spE_len]; exact hj), nth_spE L j hj]; rfl
      have enL : ((L.length : Nat) : Int) - 1 = (L.length : Int) - 1 := rfl
      repeat' (first | refine zka ?_ | refine zkb ?_ | (apply RKp.op; ((try simp (disch := (first | omega | exact zX | exact zO | fail)) only [lnL, lnY, go_sem, Nat.reduceDiv, Nat.reduceMod, Nat.reduceAdd, Nat.reduceSub, Nat.reduceEqDiff, Nat.reduceLeDiff, Nat.reduceLT, Nat.reduceMul, reduceIte, Nat.reducePow, Int.reduceEq]); exact zL); rfl) | refine zkc ?_ | apply RKg.tt | apply RKg.ff | refine zkd ?_ | refine zke ?_ | refine zkf ?_ | (refine RKg.split (fun h => ?_) (fun h => ?_) <;> (try rw [h]) <;> (replace h := zB h) <;> (try (exfalso; first | exact h | omega))) | apply RK.nil | apply V.sq | apply V.bl | apply V.sc | apply V.skip | apply V.label | apply V.ret | apply V.exit | apply SeqQ.normal | apply SeqQ.ret | apply SeqQ.exit | apply BlockQ.normal | apply BlockQ.ret | apply BlockQ.here | refine zbt ?_ | apply LoopS.ret | apply LoopS.exit | apply LoopF.ret | apply LoopF.exit | apply V.regK | refine zva ?_ | refine zvb ?_ | refine zgc ?_ | refine zvd ?_ | refine zve ?_ | (refine zvf (fun h => ?_) (fun h => ?_) <;> (replace h := zB h) <;> (try (exfalso; first | exact h | omega))) | (refine FnQ.retB (resc Tryz.results11) (by simp (disch := (first | omega | exact zX | exact zO | fail)) only [cellR_op, lnL, lnY, go_sem, Nat.reduceDiv, Nat.reduceMod, Nat.reduceAdd, Nat.reduceSub, Nat.reduceEqDiff, Nat.reduceLeDiff, Nat.reduceLT, Nat.reduceMul, reduceIte, Nat.reducePow, Int.reduceEq]; rfl) ?_; (try dsimp only)))
      apply V.lpF [10, 73, 74, 75, 76, 77, 78, 79, 80, 81, 82, 83, 84, 85, 86] (fun k xs => ∃ (q : Nat) (g : _), xs = .v (.int .i64 ((q : Int) - 1)) :: g ∧ k = q ∧ q ≤ L.length ∧ ∀ j, q ≤ j → j < L.length → ¬ ltP (L.getD j (0, 0)) s) L.length
      focus (intro xs; simp only [putMany, set2, Nat.reduceAdd, Nat.reduceDiv, Nat.reduceMod, nth_zero, nth_succ, List.set_cons_zero, List.set_cons_succ]; rfl)
      focus (first | rfl | simp only [readMany, nth_zero, nth_succ, Nat.reduceDiv, Nat.reduceMod])
      · exact ⟨L.length, _, rfl, rfl, Nat.le_refl _, fun j h1 h2 => by omega⟩
      · rintro k xs ⟨q, g, rfl, hkq, hq, hno⟩
        by_cases hq0 : q = 0
        · subst hq0
          repeat' (first | refine zka ?_ | refine zkb ?_ | (apply RKp.op; ((try simp (disch := (first | omega | exact zX | exact zO | fail)) only [g0, g1, Int.toNat_natCast, go_sem, Nat.reduceDiv, Nat.reduceMod, Nat.reduceAdd, Nat.reduceSub, Nat.reduceEqDiff, Nat.reduceLeDiff, Nat.reduceLT, Nat.reduceMul, reduceIte, Nat.reducePow, Int.reduceEq]); exact zL); rfl) | refine zkc ?_ | apply RKg.tt | apply RKg.ff | refine zkd ?_ | refine zke ?_ | refine zkf ?_ | (refine RKg.split (fun h => ?_) (fun h => ?_) <;> (try rw [h]) <;> (replace h := zB h) <;> (try (exfalso; first | exact h | omega))) | apply RK.nil | apply V.sq | apply V.bl | apply V.sc | apply V.skip | apply V.label | apply V.ret | apply V.exit | apply SeqQ.normal | apply SeqQ.ret | apply SeqQ.exit | apply BlockQ.normal | apply BlockQ.ret | apply BlockQ.here | refine zbt ?_ | apply LoopS.ret | apply LoopS.exit | apply LoopF.ret | apply LoopF.exit | apply V.regK | refine zva ?_ | refine zvb ?_ | refine zgc ?_ | refine zvd ?_ | refine zve ?_ | (refine zvf (fun h => ?_) (fun h => ?_) <;> (replace h := zB h) <;> (try (exfalso; first | exact h | omega))) | (refine FnQ.retB (resc Tryz.results11) (by simp (disch := (first | omega | exact zX | exact zO | fail)) only [cellR_op, g0, g1, Int.toNat_natCast, go_sem, Nat.reduceDiv, Nat.reduceMod, Nat.reduceAdd, Nat.reduceSub, Nat.reduceEqDiff, Nat.reduceLeDiff, Nat.reduceLT, Nat.reduceMul, reduceIte, Nat.reducePow, Int.reduceEq]; rfl) ?_; (try dsimp only)))
          all_goals first
            | (exfalso; omega)
            | skip
          refine ⟨(0, 0), by simp only [frzR_agg, List.map_cons, List.map_nil, frzC_v, spotA]; rfl, .inr ⟨fun e h1 h2 => ?_, rfl⟩⟩
          rw [hlast] at hU
          obtain ⟨j, hj, rfl⟩ := hU.has h1
          exact hno j (Nat.zero_le _) hj h2
        · obtain ⟨n, rfl⟩ : ∃ n, q = n + 1 := ⟨q - 1, by omega⟩
          have en : ((n + 1 : Nat) : Int) - 1 = (n : Int) := by omega
          rw [en]
          have hB := fun ys G => before_run (ys := ys) (lo := lo') (H := G) ((L.getD n (0, 0)).1 : Nat) ((L.getD n (0, 0)).2 : Nat) 0 (s.1 : Nat) (s.2 : Nat) p
          by_cases hb : ltP (L.getD n (0, 0)) s
          · have hb2 : (((L.getD n (0, 0)).1 : Int) < (s.1 : Nat) ∨ ((L.getD n (0, 0)).1 : Int) = (s.1 : Nat) ∧ ((L.getD n (0, 0)).2 : Int) < (s.2 : Nat)) := by unfold ltP at hb; omega
            simp only [decide_eq_true hb2] at hB
            repeat' (first | refine zka ?_ | refine zkb ?_ | (apply RKp.op; ((try simp (disch := (first | omega | exact zX | exact zO | fail)) only [lnY, ixY, ldY, g0, g1, Int.toNat_natCast, go_sem, Nat.reduceDiv, Nat.reduceMod, Nat.reduceAdd, Nat.reduceSub, Nat.reduceEqDiff, Nat.reduceLeDiff, Nat.reduceLT, Nat.reduceMul, reduceIte, Nat.reducePow, Int.reduceEq]); exact zL); rfl) | (apply RKp.callR; (apply hB <;> (exact zD)); rfl; intro tr htr) | refine zkc ?_ | apply RKg.tt | apply RKg.ff | refine zkd ?_ | refine zke ?_ | refine zkf ?_ | (refine RKg.split (fun h => ?_) (fun h => ?_) <;> (try rw [h]) <;> (replace h := zB h) <;> (try (exfalso; first | exact h | omega))) | apply RK.nil | apply V.sq | apply V.bl | apply V.sc | apply V.skip | apply V.label | apply V.ret | apply V.exit | apply SeqQ.normal | apply SeqQ.ret | apply SeqQ.exit | apply BlockQ.normal | apply BlockQ.ret | apply BlockQ.here | refine zbt ?_ | apply LoopS.ret | apply LoopS.exit | apply LoopF.ret | apply LoopF.exit | apply V.regK | refine zva ?_ | refine zvb ?_ | refine zgc ?_ | refine zvd ?_ | refine zve ?_ | (refine zvf (fun h => ?_) (fun h => ?_) <;> (replace h := zB h) <;> (try (exfalso; first | exact h | omega))) | (refine FnQ.retB (resc Tryz.results11) (by simp (disch := (first | omega | exact zX | exact zO | fail)) only [cellR_op, lnY, ixY, ldY, g0, g1, Int.toNat_natCast, go_sem, Nat.reduceDiv, Nat.reduceMod, Nat.reduceAdd, Nat.reduceSub, Nat.reduceEqDiff, Nat.reduceLeDiff, Nat.reduceLT, Nat.reduceMul, reduceIte, Nat.reducePow, Int.reduceEq]; rfl) ?_; (try dsimp only)))
            all_goals first
              | (exfalso; omega)
              | skip
            rw [hlast] at hU
            refine ⟨L.getD n (0, 0), by simp only [frzR_agg, List.map_cons, List.map_nil, frzC_v, spotA], .inl ⟨hU.at_ (by omega), hb, fun e h1 h2 h3 => ?_⟩⟩
            obtain ⟨j, hj, rfl⟩ := hU.has h1
            rcases Nat.lt_or_ge n j with z | z
            · exact hno j (by omega) hj h2
            · rcases Nat.eq_or_lt_of_le z with z | z
              · subst z; unfold ltP at h3; omega
              · have := hU.lt z (show n < L.length by omega)
                unfold ltP at this h3; omega
          · have hb2 : ¬ (((L.getD n (0, 0)).1 : Int) < (s.1 : Nat) ∨ ((L.getD n (0, 0)).1 : Int) = (s.1 : Nat) ∧ ((L.getD n (0, 0)).2 : Int) < (s.2 : Nat)) := by unfold ltP at hb; omega
            simp only [decide_eq_false hb2] at hB
            repeat' (first | refine zka ?_ | refine zkb ?_ | (apply RKp.op; ((try simp (disch := (first | omega | exact zX | exact zO | fail)) only [lnY, ixY, ldY, g0, g1, Int.toNat_natCast, go_sem, Nat.reduceDiv, Nat.reduceMod, Nat.reduceAdd, Nat.reduceSub, Nat.reduceEqDiff, Nat.reduceLeDiff, Nat.reduceLT, Nat.reduceMul, reduceIte, Nat.reducePow, Int.reduceEq]); exact zL); rfl) | (apply RKp.callR; (apply hB <;> (exact zD)); rfl; intro tr htr) | refine zkc ?_ | apply RKg.tt | apply RKg.ff | refine zkd ?_ | refine zke ?_ | refine zkf ?_ | (refine RKg.split (fun h => ?_) (fun h => ?_) <;> (try rw [h]) <;> (replace h := zB h) <;> (try (exfalso; first | exact h | omega))) | apply RK.nil | apply V.sq | apply V.bl | apply V.sc | apply V.skip | apply V.label | apply V.ret | apply V.exit | apply SeqQ.normal | apply SeqQ.ret | apply SeqQ.exit | apply BlockQ.normal | apply BlockQ.ret | apply BlockQ.here | refine zbt ?_ | apply LoopS.ret | apply LoopS.exit | apply LoopF.ret | apply LoopF.exit | apply V.regK | refine zva ?_ | refine zvb ?_ | refine zgc ?_ | refine zvd ?_ | refine zve ?_ | (refine zvf (fun h => ?_) (fun h => ?_) <;> (replace h := zB h) <;> (try (exfalso; first | exact h | omega))) | (refine FnQ.retB (resc Tryz.results11) (by simp (disch := (first | omega | exact zX | exact zO | fail)) only [cellR_op, lnY, ixY, ldY, g0, g1, Int.toNat_natCast, go_sem, Nat.reduceDiv, Nat.reduceMod, Nat.reduceAdd, Nat.reduceSub, Nat.reduceEqDiff, Nat.reduceLeDiff, Nat.reduceLT, Nat.reduceMul, reduceIte, Nat.reducePow, Int.reduceEq]; rfl) ?_; (try dsimp only)))
            all_goals first
              | (exfalso; omega)
              | skip
            refine LoopF.again n (by rfl) (by omega) ⟨n, _, rfl, rfl, by omega, fun j h1 h2 => ?_⟩
            rcases Nat.lt_or_ge n j with z | z
            · exact hno j (by omega) h2
            · have : j = n := by omega
              subst this; exact hb
end
end Go.Am
