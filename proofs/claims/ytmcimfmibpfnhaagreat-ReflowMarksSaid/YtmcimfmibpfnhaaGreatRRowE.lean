
/- Cells: trimmed, compared, copied; rows compared, copied. -/
import Derived.Test.YtmcimfmibpfnhaaGreatRRowD
set_option linter.all false
set_option linter.deprecated false
namespace Go.Am
variable {oc : Orc} [OrcI oc]
open Go.Proofs
set_option maxRecDepth 8000
set_option maxHeartbeats 4000000
theorem ces_take (l : List Ce) (a b : Nat) : ((cesA l).drop a).take (b - a) = cesA ((l.drop a).take (b - a)) := by simp [List.map_take, List.map_drop]
theorem sl_hi (lo : Nat) {H : AHeap} {A : AV} {l : List Ce} (hA : SlH H 3 A (cesA l)) (κ : IntKind) (z : Int) (h0 : 0 ≤ z) (h1 : z ≤ l.length) : primL lo H (sliceA (ELo oc) 41 A none (some (.v (.int κ z))) none) = some (cutA A 0 z.toNat, H, rdTr A) :=
  slice_SlH (ELo oc) lo (by kernel_rfl) hA none _ (bound_none 0) (bound_some κ z _ h0) (Nat.zero_le _) (by rw [ces_len]; omega)
theorem sl_lo (lo : Nat) {H : AHeap} {A : AV} {l : List Ce} (hA : SlH H 3 A (cesA l)) (κ : IntKind) (z : Int) (h0 : 0 ≤ z) (h1 : z ≤ l.length) : primL lo H (sliceA (ELo oc) 41 A (some (.v (.int κ z))) none none) = some (cutA A z.toNat (cesA l).length, H, rdTr A) :=
  slice_SlH (ELo oc) lo (by kernel_rfl) hA _ none (bound_some κ z _ h0) (bound_none _) (by rw [ces_len]; omega) (Nat.le_refl _)
theorem sl_lohi (lo : Nat) {H : AHeap} {A : AV} {l : List Ce} (hA : SlH H 3 A (cesA l)) (κ κ' : IntKind) (y z : Int) (h : 0 ≤ y) (h0 : y ≤ z) (h1 : z ≤ l.length) : primL lo H (sliceA (ELo oc) 41 A (some (.v (.int κ y))) (some (.v (.int κ' z))) none) = some (cutA A y.toNat z.toNat, H, rdTr A) :=
  slice_SlH (ELo oc) lo (by kernel_rfl) hA _ _ (bound_some κ y _ h) (bound_some κ' z _ (by omega)) (by omega) (by rw [ces_len]; omega)
theorem cut_hi {H : AHeap} {A : AV} {l : List Ce} (hA : SlH H 3 A (cesA l)) (n : Nat) (h : n ≤ l.length) : SlH H 3 (cutA A 0 n) (cesA (l.take n)) := by
  have := cutA_SlH (lo := 0) (hi := n) hA (Nat.zero_le _) (by rw [ces_len]; exact h)
  rw [ces_take] at this; exact this
theorem Sl_frz {A : AV} {l : List Ce} {H : AHeap} {lo : Nat} (h : Sl 3 A (cesA l)) : Sl 3 (frzR H lo A) (cesA l) := by rw [frzR_Sl H lo h]; exact h
theorem os_frz {H : AHeap} {lo n e : Nat} {l : List Ce} (hl : lo ≤ n) (hb : H.get n = some ⟨52, 3, e, cesA l, none⟩) : frzR H lo (.os n e 0 l.length) = .sl 3 (cesA l) := by
  rw [frzR_os H lo hl hb rfl rfl (by simp) (Nat.zero_lt_succ 2) (flat_ces l)]; simp only [List.drop_zero]; rw [List.take_of_length_le (by simp)]
theorem osC_frz {H : AHeap} {lo n e : Nat} {l : List Ce} (hl : lo ≤ n) (hb : H.get n = some ⟨52, 3, e, cesA l, none⟩) : frzC H lo (.os n e 0 l.length) = .sl 3 (cesA l) := by
  rw [frzC_os H lo hl hb rfl rfl (by simp) (Nat.zero_lt_succ 2) (flat_ces l)]; simp only [List.drop_zero]; rw [List.take_of_length_le (by simp)]
section
variable {ys : List (Nat × LRec)} {lo : Nat} {H : AHeap} {A B : AV} {l m : List Ce} {wr wr' : Bool}
theorem Clone_E (hA : SlH H 3 A (cesA l)) (hl : l.length < 2 ^ 40) : CallE (ELo oc) ys lo 95 [A] H fun x H' => (l = [] ∧ (x = nilA ∨ x = .e0) ∧ H' = H) ∨ (l ≠ [] ∧ x = .os H.next 0 0 l.length ∧ H' = H.push ⟨52, 3, 0, cesA l, none⟩) := by
  by_cases h0 : l = []
  · subst h0
    obtain ⟨x, H', tr, h1, x', bs, ⟨rfl, h3⟩, rfl, rfl⟩ : CallE (ELo oc) ys lo 95 [A] H fun r H' => ∃ (x : Nat → AV) (bs : Nat → List Blk), (bs = (fun _ => []) ∧ (x H.next = nilA ∨ x H.next = .e0)) ∧ r = x H.next ∧ H' = pushAll H (bs H.next) := by
      refine WC.ownE rfl fun lo' H' hh => ?_
      have hA' := hA.two (.inr ⟨[], .inr List.mem_cons_self⟩) hh
      have h1 := append_new0 (ELo oc) lo' (H := H') (t := 41) (s := .e0) (.inl rfl) app_cell hA'
      by_cases hn : A = nilA
      · subst hn
        have h2 := fun xo yo => nilS_yes (ELo oc) lo' H' 41 xo yo (by kernel_rfl)
        refine zvin Tryz.func95 Tryz.ntmps95 ?_
        repeat' (first | refine zka ?_ | refine zkb ?_ | (apply RKp.op; ((try simp (disch := (first | omega | exact zX | fail)) only [h1, h2, nilA, go_sem, Nat.reduceDiv, Nat.reduceMod, Nat.reduceAdd, Nat.reduceSub, Nat.reduceEqDiff, Nat.reduceLeDiff, Nat.reduceLT, Nat.reduceMul, reduceIte, Nat.reducePow, Int.reduceEq]); exact zL); rfl) | refine zkc ?_ | apply RKg.tt | apply RKg.ff | refine zkd ?_ | refine zke ?_ | refine zkf ?_ | (refine RKg.split (fun h => ?_) (fun h => ?_) <;> (try rw [h]) <;> (replace h := zB h) <;> (try (exfalso; first | exact h | omega))) | apply RK.nil | apply V.sq | apply V.bl | apply V.sc | apply V.skip | apply V.label | apply V.ret | apply V.exit | apply SeqQ.normal | apply SeqQ.ret | apply SeqQ.exit | apply BlockQ.normal | apply BlockQ.ret | apply BlockQ.here | refine zbt ?_ | apply LoopS.ret | apply LoopS.exit | apply LoopF.ret | apply LoopF.exit | apply V.regK | refine zvd ?_ | refine zve ?_ | (refine zvf (fun h => ?_) (fun h => ?_) <;> (replace h := zB h) <;> (try (exfalso; first | exact h | omega))) | (refine zfc Tryz.results95 ?_; (try dsimp only)))
        exact ⟨fun _ => nilA, _, hands_flat rfl, rfl, .inl rfl⟩
      · have h2 := fun xo yo => nilS_no (ELo oc) lo' hA' hn 41 xo yo (by kernel_rfl)
        refine zvin Tryz.func95 Tryz.ntmps95 ?_
        repeat' (first | refine zka ?_ | refine zkb ?_ | (apply RKp.op; ((try simp (disch := (first | omega | exact zX | fail)) only [h1, h2, go_sem, Nat.reduceDiv, Nat.reduceMod, Nat.reduceAdd, Nat.reduceSub, Nat.reduceEqDiff, Nat.reduceLeDiff, Nat.reduceLT, Nat.reduceMul, reduceIte, Nat.reducePow, Int.reduceEq]); exact zL); rfl) | refine zkc ?_ | apply RKg.tt | apply RKg.ff | refine zkd ?_ | refine zke ?_ | refine zkf ?_ | (refine RKg.split (fun h => ?_) (fun h => ?_) <;> (try rw [h]) <;> (replace h := zB h) <;> (try (exfalso; first | exact h | omega))) | apply RK.nil | apply V.sq | apply V.bl | apply V.sc | apply V.skip | apply V.label | apply V.ret | apply V.exit | apply SeqQ.normal | apply SeqQ.ret | apply SeqQ.exit | apply BlockQ.normal | apply BlockQ.ret | apply BlockQ.here | refine zbt ?_ | apply LoopS.ret | apply LoopS.exit | apply LoopF.ret | apply LoopF.exit | apply V.regK | refine zvd ?_ | refine zve ?_ | (refine zvf (fun h => ?_) (fun h => ?_) <;> (replace h := zB h) <;> (try (exfalso; first | exact h | omega))) | (refine zfc Tryz.results95 ?_; (try dsimp only)))
        exact ⟨fun _ => .e0, _, hands_flat rfl, rfl, .inr rfl⟩
    exact ⟨_, _, tr, h1, .inl ⟨rfl, h3, rfl⟩⟩
  · obtain ⟨tr, h⟩ := Clone_run (ys := ys) (lo := lo) hA h0 hl
    exact ⟨_, _, tr, h, .inr ⟨h0, rfl, rfl⟩⟩
theorem Trim_run (hA : SlH H 3 A (cesA l)) (hl : l.length < 2 ^ 40) : CallRoE (ELo oc) ys lo 74 [A] H fun x => Sl 3 x (cesA (trimL l)) := by
  refine WC.pureE rfl fun lo' H' hh => ?_
  have hA' := hA.two (.inr ⟨[], .inr (by simp)⟩) hh
  have hlo := lo_two hh
  refine zvin Tryz.func74 Tryz.ntmps74 ?_
  repeat' (first | refine zka ?_ | refine zkb ?_ | (apply RKp.op; ((try simp (disch := (first | omega | exact zX | fail)) only [len_cell _ hA', go_sem, Nat.reduceDiv, Nat.reduceMod, Nat.reduceAdd, Nat.reduceSub, Nat.reduceEqDiff, Nat.reduceLeDiff, Nat.reduceLT, Nat.reduceMul, reduceIte, Nat.reducePow, Int.reduceEq]); exact zL); rfl) | refine zkc ?_ | apply RKg.tt | apply RKg.ff | refine zkd ?_ | refine zke ?_ | refine zkf ?_ | (refine RKg.split (fun h => ?_) (fun h => ?_) <;> (try rw [h]) <;> (replace h := zB h) <;> (try (exfalso; first | exact h | omega))) | apply RK.nil | apply V.sq | apply V.bl | apply V.sc | apply V.skip | apply V.label | apply V.ret | apply V.exit | apply SeqQ.normal | apply SeqQ.ret | apply SeqQ.exit | apply BlockQ.normal | apply BlockQ.ret | apply BlockQ.here | refine zbt ?_ | apply LoopS.ret | apply LoopS.exit | apply LoopF.ret | apply LoopF.exit | apply V.regK | refine zvd ?_ | refine zve ?_ | (refine zvf (fun h => ?_) (fun h => ?_) <;> (replace h := zB h) <;> (try (exfalso; first | exact h | omega))) | (refine zfc Tryz.results74 ?_; (try dsimp only)))
  apply V.lpF [3, 6, 7, 8, 9, 10, 11, 12, 13, 14, 15, 16, 17] (fun k xs => ∃ (i : Nat) (g : _), xs = .v (.int .i64 i) :: g ∧ k = i ∧ i ≤ l.length ∧ usedN l i = usedN l l.length) l.length
  focus (intro xs; simp only [putMany, set2, Nat.reduceAdd, Nat.reduceDiv, Nat.reduceMod, nth_zero, nth_succ, List.set_cons_zero, List.set_cons_succ]; rfl)
  focus (first | rfl | simp only [readMany, nth_zero, nth_succ, Nat.reduceDiv, Nat.reduceMod])
  · exact ⟨l.length, _, rfl, rfl, Nat.le_refl _, rfl⟩
  · rintro k xs ⟨i, g, rfl, rfl, hi, hst⟩
    have e2 : ((k : Int) - 1).toNat = k - 1 := by omega
    have hc := cut_hi hA' k hi
    have ht : (l.take k).length < 2 ^ 40 := by simp; omega
    repeat' (first | refine zka ?_ | refine zkb ?_ | (apply RKp.op; ((try simp (disch := (first | omega | exact zX | fail)) only [ix_cell _ hA', ld_cell _ hA', e2, sl_hi _ hA', Int.toNat_natCast, go_sem, Nat.reduceDiv, Nat.reduceMod, Nat.reduceAdd, Nat.reduceSub, Nat.reduceEqDiff, Nat.reduceLeDiff, Nat.reduceLT, Nat.reduceMul, reduceIte, Nat.reducePow, Int.reduceEq]); exact zL); rfl) | (apply RKp.call; (apply IsBlank_run <;> (exact zD)); rfl) | (apply RKp.callE; (apply Clone_E <;> (exact zD)); (intro x; rfl)) | refine zkc ?_ | apply RKg.tt | apply RKg.ff | refine zkd ?_ | refine zke ?_ | refine zkf ?_ | (refine RKg.split (fun h => ?_) (fun h => ?_) <;> (try rw [h]) <;> (replace h := zB h) <;> (try (exfalso; first | exact h | omega))) | apply RK.nil | apply V.sq | apply V.bl | apply V.sc | apply V.skip | apply V.label | apply V.ret | apply V.exit | apply SeqQ.normal | apply SeqQ.ret | apply SeqQ.exit | apply BlockQ.normal | apply BlockQ.ret | apply BlockQ.here | refine zbt ?_ | apply LoopS.ret | apply LoopS.exit | apply LoopF.ret | apply LoopF.exit | apply V.regK | refine zvd ?_ | refine zve ?_ | (refine zvf (fun h => ?_) (fun h => ?_) <;> (replace h := zB h) <;> (try (exfalso; first | exact h | omega))) | (refine zfc Tryz.results74 ?_; (try dsimp only)))
    · refine LoopF.again (k - 1) (by rfl) (by omega) ⟨k - 1, _, by rw [show ((k - 1 : Nat) : Int) = (k : Int) - 1 by omega]; rfl, rfl, by omega, ?_⟩
      rw [← hst]
      obtain ⟨j, rfl⟩ : ∃ j, k = j + 1 := ⟨k - 1, by omega⟩
      simp only [usedN, Nat.add_sub_cancel] at h ⊢
      rw [if_pos (Ce.eqv.2 h)]
    all_goals
      have hu : usedN l k = k := by
        rcases Nat.eq_zero_or_pos k with h0 | h0
        · subst h0; rfl
        · by_cases hk : l.getD (k - 1) zeroC = blankC
          · exfalso
            first
            | exact h (Ce.eqv.1 hk)
            | omega
          · obtain ⟨j, rfl⟩ : ∃ j, k = j + 1 := ⟨k - 1, by omega⟩
            simp only [usedN]
            exact if_neg hk
      have htr : trimL l = l.take k := by rw [trimL, ← hst, hu]
      rintro x H2 tr (⟨h1, hx, rfl⟩ | ⟨h1, rfl, rfl⟩)
      · repeat' (first | refine zka ?_ | refine zkb ?_ | (apply RKp.op; ((try simp (disch := (first | omega | exact zX | fail)) only [go_sem, Nat.reduceDiv, Nat.reduceMod, Nat.reduceAdd, Nat.reduceSub, Nat.reduceEqDiff, Nat.reduceLeDiff, Nat.reduceLT, Nat.reduceMul, reduceIte, Nat.reducePow, Int.reduceEq]); exact zL); rfl) | refine zkc ?_ | apply RKg.tt | apply RKg.ff | refine zkd ?_ | refine zke ?_ | refine zkf ?_ | (refine RKg.split (fun h => ?_) (fun h => ?_) <;> (try rw [h]) <;> (replace h := zB h) <;> (try (exfalso; first | exact h | omega))) | apply RK.nil | apply V.sq | apply V.bl | apply V.sc | apply V.skip | apply V.label | apply V.ret | apply V.exit | apply SeqQ.normal | apply SeqQ.ret | apply SeqQ.exit | apply BlockQ.normal | apply BlockQ.ret | apply BlockQ.here | refine zbt ?_ | apply LoopS.ret | apply LoopS.exit | apply LoopF.ret | apply LoopF.exit | apply V.regK | refine zvd ?_ | refine zve ?_ | (refine zvf (fun h => ?_) (fun h => ?_) <;> (replace h := zB h) <;> (try (exfalso; first | exact h | omega))) | (refine zfc Tryz.results74 ?_; (try dsimp only)))
        rw [htr, h1]
        exact Sl_frz (l := []) (.inr ⟨rfl, hx.symm⟩)
      · repeat' (first | refine zka ?_ | refine zkb ?_ | (apply RKp.op; ((try simp (disch := (first | omega | exact zX | fail)) only [go_sem, Nat.reduceDiv, Nat.reduceMod, Nat.reduceAdd, Nat.reduceSub, Nat.reduceEqDiff, Nat.reduceLeDiff, Nat.reduceLT, Nat.reduceMul, reduceIte, Nat.reducePow, Int.reduceEq]); exact zL); rfl) | refine zkc ?_ | apply RKg.tt | apply RKg.ff | refine zkd ?_ | refine zke ?_ | refine zkf ?_ | (refine RKg.split (fun h => ?_) (fun h => ?_) <;> (try rw [h]) <;> (replace h := zB h) <;> (try (exfalso; first | exact h | omega))) | apply RK.nil | apply V.sq | apply V.bl | apply V.sc | apply V.skip | apply V.label | apply V.ret | apply V.exit | apply SeqQ.normal | apply SeqQ.ret | apply SeqQ.exit | apply BlockQ.normal | apply BlockQ.ret | apply BlockQ.here | refine zbt ?_ | apply LoopS.ret | apply LoopS.exit | apply LoopF.ret | apply LoopF.exit | apply V.regK | refine zvd ?_ | refine zve ?_ | (refine zvf (fun h => ?_) (fun h => ?_) <;> (replace h := zB h) <;> (try (exfalso; first | exact h | omega))) | (refine zfc Tryz.results74 ?_; (try dsimp only)))
        rw [os_frz (by omega) (by rw [get_push, if_pos rfl]), htr]
        exact .inl rfl
end
end Go.Am
