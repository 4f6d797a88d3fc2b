
/- Rows that may be: the reference's Row. -/
import Derived.Test.YtmcimfmibpfnhaaGreatRRowM
import Derived.Test.YtmcimfmibpfnhaaGreatAmD
set_option linter.all false
set_option linter.deprecated false
namespace Go.Am
variable {oc : Orc} [OrcI oc]
open Go.Proofs
set_option maxRecDepth 8000
set_option maxHeartbeats 4000000
def refOk (l : List Ce) (i : Nat) : Prop := mayC (l.getD i zeroC).r (l.getD i zeroC).w (l.getD i zeroC).a ∧ ¬((l.getD i zeroC).w = 2 ∧ (l.length ≤ i + 1 ∨ l.getD (i + 1) zeroC ≠ ⟨0, 0, (l.getD i zeroC).a⟩)) ∧ ¬((l.getD i zeroC).w = 0 ∧ (i = 0 ∨ (l.getD (i - 1) zeroC).w ≠ 2 ∨ (l.getD (i - 1) zeroC).a ≠ (l.getD i zeroC).a))
instance (l : List Ce) (i : Nat) : Decidable (refOk l i) := inferInstanceAs (Decidable (_ ∧ _))
abbrev R32 (l : List Ce) : Prop := ∀ i, -2147483648 ≤ (l.getD i zeroC).r ∧ (l.getD i zeroC).r ≤ 2147483647
theorem Ce.eq {c : Ce} {r w a : Int} (h1 : c.r = r) (h2 : c.w = w) (h3 : c.a = a) : c = ⟨r, w, a⟩ := by cases c; simp_all
theorem Ce.eqv {c : Ce} {r w a : Int} : c = ⟨r, w, a⟩ ↔ c.r = r ∧ c.w = w ∧ c.a = a := by cases c; simp
/-! Cells of a slice. -/
section
variable {H : AHeap} {A : AV} {l : List Ce}
theorem ces_len (l : List Ce) : (cesA l).length = l.length := List.length_map _
theorem ix_cell (lo : Nat) (hA : SlH H 3 A (cesA l)) (κ : IntKind) (z : Int) (h0 : 0 ≤ z) (h1 : z < l.length) : primL lo H (indexAddrA (ELo oc) 41 A (.v (.int κ z))) = some (ixA A (cesA l) z.toNat, H, rdTr A) := index_SlH (ELo oc) lo _ κ z hA (by kernel_rfl) h0 (by rw [ces_len]; exact h1)
theorem ld_cell (lo : Nat) (hA : SlH H 3 A (cesA l)) (j : Nat) (h : j < l.length) : primL lo H (loadA (ELo oc) 52 (ixA A (cesA l) j)) = some (.agg [.v (.int .i32 (l.getD j zeroC).r), .v (.int .i64 (l.getD j zeroC).w), .v (.int .i64 (l.getD j zeroC).a)], H, rdTr A) := by
  rw [load_SlH (ELo oc) lo 52 j hA (by rw [ces_len]; exact h), nth_cesA l j h]; rfl
theorem fa_cell (lo : Nat) (hA : SlH H 3 A (cesA l)) (j f : Nat) (h : f < 3) : primL lo H (fieldAddrA (ELo oc) 52 f (ixA A (cesA l) j)) = some (fxA A (cesA l) j f, H, rdTr A) :=
  fieldAddr_SlH (ELo oc) lo hA 52 f j (by
    have e : ∀ f, f < 3 → fieldOff (ELo oc).P 52 f = some f := by
      intro f h
      have : f = 0 ∨ f = 1 ∨ f = 2 := by omega
      rcases this with rfl | rfl | rfl
      · rfl
      · rfl
      · rfl
    exact e f h)
theorem lf_w (lo : Nat) (hA : SlH H 3 A (cesA l)) (j : Nat) (h : j < l.length) : primL lo H (loadA (ELo oc) 3 (fxA A (cesA l) j 1)) = some (.v (.int .i64 (l.getD j zeroC).w), H, rdTr A) := by
  rw [loadF_SlH (ELo oc) lo hA 3 j 1 (by rw [ces_len]; exact h) (by decide), nth_cesA l j h]; rfl
theorem lf_a (lo : Nat) (hA : SlH H 3 A (cesA l)) (j : Nat) (h : j < l.length) : primL lo H (loadA (ELo oc) 3 (fxA A (cesA l) j 2)) = some (.v (.int .i64 (l.getD j zeroC).a), H, rdTr A) := by
  rw [loadF_SlH (ELo oc) lo hA 3 j 2 (by rw [ces_len]; exact h) (by decide), nth_cesA l j h]; rfl
theorem lf_r (lo : Nat) (hA : SlH H 3 A (cesA l)) (j : Nat) (h : j < l.length) : primL lo H (loadA (ELo oc) 21 (fxA A (cesA l) j 0)) = some (.v (.int .i32 (l.getD j zeroC).r), H, rdTr A) := by
  rw [loadF_SlH (ELo oc) lo hA 21 j 0 (by rw [ces_len]; exact h) (by decide), nth_cesA l j h]; rfl
theorem len_cell (lo : Nat) (hA : SlH H 3 A (cesA l)) : primL lo H (builtinA (ELo oc) .len #[41] 3 [A]) = some (.v (.int .i64 l.length), H, rdTr A) := by
  rw [len_SlH (ELo oc) lo _ _ hA (by kernel_rfl), ces_len]
end
theorem eqC0 (r w a r' w' a' : Int) : eqPlan (ELo oc) 52 false (.agg [.v (.int .i32 r), .v (.int .i64 w), .v (.int .i64 a)]) (.agg [.v (.int .i32 r'), .v (.int .i64 w'), .v (.int .i64 a')]) = .val (.v (.bool (decide (r = r' ∧ w = w' ∧ a = a')))) := by
  rw [eqCe _ _ _ _ _ _ _ eqT_cell, Bool.bne_false]
theorem eqC1 (r w a r' w' a' : Int) : eqPlan (ELo oc) 52 true (.agg [.v (.int .i32 r), .v (.int .i64 w), .v (.int .i64 a)]) (.agg [.v (.int .i32 r'), .v (.int .i64 w'), .v (.int .i64 a')]) = .val (.v (.bool (!decide (r = r' ∧ w = w' ∧ a = a')))) := by
  rw [eqCe _ _ _ _ _ _ _ eqT_cell, Bool.bne_true]
section
variable {ys : List (Nat × LRec)} {lo : Nat} {H : AHeap}
theorem refRow_wc (lo : Nat) (H : AHeap) (A : AV) (l : List Ce) (wr : Bool) (hA : SlH H 3 A (cesA l)) (hlo : lo ≤ H.next) (hl : l.length < 2 ^ 40) (h32 : R32 l) :
    WC (ELo oc) [] lo 40 [.agg [A, .v (.bool wr)]] H fun x _ => x = .v (.bool (decide (l.length ≤ 300 ∧ ∀ i, i < l.length → refOk l i))) := by
  have hA1 := hA.push ⟨48, 2, 0, [[A, .v (.bool wr)]], none⟩
  refine zvin Tryz.func40 Tryz.ntmps40 ?_
  repeat' (first | refine zka ?_ | refine zkb ?_ | (apply RKp.op; ((try simp (disch := (first | omega | exact zX | fail)) only [len_cell _ hA1, go_sem, Nat.reduceDiv, Nat.reduceMod, Nat.reduceAdd, Nat.reduceSub, Nat.reduceEqDiff, Nat.reduceLeDiff, Nat.reduceLT, Nat.reduceMul, reduceIte, Nat.reducePow, Int.reduceEq]); exact zL); rfl) | refine zkc ?_ | apply RKg.tt | apply RKg.ff | refine zkd ?_ | refine zke ?_ | refine zkf ?_ | (refine RKg.split (fun h => ?_) (fun h => ?_) <;> (try rw [h]) <;> (replace h := zB h) <;> (try (exfalso; first | exact h | omega))) | apply RK.nil | apply V.sq | apply V.bl | apply V.sc | apply V.skip | apply V.label | apply V.ret | apply V.exit | apply SeqQ.normal | apply SeqQ.ret | apply SeqQ.exit | apply BlockQ.normal | apply BlockQ.ret | apply BlockQ.here | refine zbt ?_ | apply LoopS.ret | apply LoopS.exit | apply LoopF.ret | apply LoopF.exit | apply V.regK | refine zva ?_ | refine zvb ?_ | refine zvc ?_ | refine zvd ?_ | refine zve ?_ | (refine zvf (fun h => ?_) (fun h => ?_) <;> (replace h := zB h) <;> (try (exfalso; first | exact h | omega))) | (refine zfc Tryz.results40 ?_; (try dsimp only)))
  apply V.lpF [4, 2, 7, 8, 9, 10, 11, 12, 13, 14, 15, 16, 17, 18, 19, 20, 21, 22, 23, 24, 25, 26, 27, 28, 29, 30, 31, 32, 33, 34, 35, 36, 37, 38, 39, 40, 41, 42, 43, 44, 45, 46, 47, 48, 49, 50, 51, 52, 53, 54, 55, 56, 57, 58, 59, 60, 61, 62, 63, 64, 65, 66, 67, 68, 69, 70, 71, 72, 73, 74, 75, 76, 77, 78, 79, 80, 81, 82] (fun m xs => ∃ (i : Nat) (g : _), xs = .v (.int .i64 i) :: g ∧ m = l.length - i ∧ i ≤ l.length ∧ ∀ j, j < i → refOk l j) l.length
  focus (intro xs; simp only [putMany, set2, Nat.reduceAdd, Nat.reduceDiv, Nat.reduceMod, nth_zero, nth_succ, List.set_cons_zero, List.set_cons_succ]; rfl)
  focus (first | rfl | simp only [readMany, nth_zero, nth_succ, Nat.reduceDiv, Nat.reduceMod])
  · exact ⟨0, _, rfl, rfl, Nat.zero_le _, fun j h => absurd h (Nat.not_lt_zero _)⟩
  · rintro m xs ⟨i, g, rfl, rfl, hi, hst⟩
    have hr := h32 i
    have e1 : ((i : Int) + 1).toNat = i + 1 := by omega
    have e2 : ((i : Int) - 1).toNat = i - 1 := by omega
    repeat' (first | refine zka ?_ | refine zkb ?_ | (apply RKp.op; ((try simp (disch := (first | omega | exact zX | fail)) only [len_cell _ hA1, ix_cell _ hA1, ld_cell _ hA1, fa_cell _ hA1, lf_w _ hA1, lf_a _ hA1, eqC0, eqC1, e1, e2, go_sem, Nat.reduceDiv, Nat.reduceMod, Nat.reduceAdd, Nat.reduceSub, Nat.reduceEqDiff, Nat.reduceLeDiff, Nat.reduceLT, Nat.reduceMul, reduceIte, Nat.reducePow, Int.reduceEq]); exact zL); rfl) | (apply RKp.call; (apply Cell_run <;> (exact zD)); rfl) | refine zkc ?_ | apply RKg.tt | apply RKg.ff | refine zkd ?_ | refine zke ?_ | refine zkf ?_ | (refine RKg.split (fun h => ?_) (fun h => ?_) <;> (try rw [h]) <;> (replace h := zB h) <;> (try (exfalso; first | exact h | omega))) | apply RK.nil | apply V.sq | apply V.bl | apply V.sc | apply V.skip | apply V.label | apply V.ret | apply V.exit | apply SeqQ.normal | apply SeqQ.ret | apply SeqQ.exit | apply BlockQ.normal | apply BlockQ.ret | apply BlockQ.here | refine zbt ?_ | apply LoopS.ret | apply LoopS.exit | apply LoopF.ret | apply LoopF.exit | apply V.regK | refine zva ?_ | refine zvb ?_ | refine zvc ?_ | refine zvd ?_ | refine zve ?_ | (refine zvf (fun h => ?_) (fun h => ?_) <;> (replace h := zB h) <;> (try (exfalso; first | exact h | omega))) | (refine zfc Tryz.results40 ?_; (try dsimp only)))
    all_goals
      (first
      | (refine LoopF.again (l.length - (i + 1)) (by rfl) (by omega) ⟨i + 1, _, rfl, rfl, by omega, fun j hj => ?_⟩
         rcases Nat.lt_succ_iff_lt_or_eq.1 hj with hj | rfl
         · exact hst j hj
         · grind [refOk, Ce.eqv])
      | (congr 2; rw [eq_comm, decide_eq_false_iff_not]; rintro ⟨_, h2⟩; have k := h2 i (by omega); grind [refOk, Ce.eqv])
      | (congr 2; rw [decide_eq_decide]; have : i = l.length := by omega
         subst this; exact ⟨fun e => ⟨by omega, hst⟩, fun e => by omega⟩)
      | trace_state)
end
end Go.Am
