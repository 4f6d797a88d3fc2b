
/- Cells as slices: copies, comparisons, what is used of a row. -/
import Derived.Test.YtmcimfmibpfnhaaGreatRRowM2
set_option linter.all false
set_option linter.deprecated false
namespace Go.Am
variable {oc : Orc} [OrcI oc]
open Go.Proofs
set_option maxRecDepth 8000
set_option maxHeartbeats 4000000
theorem flat_ces (l : List Ce) : FlatE (cesA l) := FlatE.map (fun c x hx => by simp at hx; rcases hx with rfl | rfl | rfl <;> rfl) l
theorem app_cell : appInfo (ELo oc).P 41 = some (52, 24, 3) := by kernel_rfl
theorem ces_nil {l : List Ce} : cesA l = [] ↔ l = [] := by cases l <;> simp

/-- How many cells are used. -/
def usedN (l : List Ce) : Nat → Nat
  | 0 => 0
  | n + 1 => if l.getD n zeroC = blankC then usedN l n else n + 1
theorem usedN_le (l : List Ce) (n : Nat) : usedN l n ≤ n := by
  induction n with
  | zero => exact Nat.le_refl 0
  | succ n ih => simp only [usedN]; split <;> omega
def trimL (l : List Ce) : List Ce := l.take (usedN l l.length)
theorem trimL_len (l : List Ce) : (trimL l).length = usedN l l.length := by
  have := usedN_le l l.length
  simp [trimL]; omega
section
variable {ys : List (Nat × LRec)} {lo : Nat} {H : AHeap} {A B : AV} {l m : List Ce}
theorem Clone_run (hA : SlH H 3 A (cesA l)) (h0 : l ≠ []) (hl : l.length < 2 ^ 40) : CallO (ELo oc) ys lo 95 [A] H (.os H.next 0 0 l.length) (H.push ⟨52, 3, 0, cesA l, none⟩) := by
  refine WC.ownO (x := fun m => .os m 0 0 l.length) (bs := fun _ => [⟨52, 3, 0, cesA l, none⟩]) rfl fun lo' H' hh => ?_
  have hA' := hA.two (.inr ⟨[], .inr List.mem_cons_self⟩) hh
  have hlo := lo_two hh
  have h1 : cesA l ≠ [] := fun e => h0 (ces_nil.1 e)
  have happ := append_new (ELo oc) lo' (H := H') (t := 41) (s := .e0) (.inl rfl) app_cell hA' h1 (by rw [ces_len]; unfold roomMax; omega)
  have hne := fun xo yo => nilS_no (ELo oc) lo' hA' (nilS_ne' hA' h1) 41 xo yo (by kernel_rfl)
  rw [ces_len] at happ
  refine zvin Tryz.func95 Tryz.ntmps95 ?_
  repeat' (first | refine zka ?_ | refine zkb ?_ | (apply RKp.op; ((try simp (disch := (first | omega | exact zX | fail)) only [hne, happ, go_sem, Nat.reduceDiv, Nat.reduceMod, Nat.reduceAdd, Nat.reduceSub, Nat.reduceEqDiff, Nat.reduceLeDiff, Nat.reduceLT, Nat.reduceMul, reduceIte, Nat.reducePow, Int.reduceEq]); exact zL); rfl) | refine zkc ?_ | apply RKg.tt | apply RKg.ff | refine zkd ?_ | refine zke ?_ | refine zkf ?_ | (refine RKg.split (fun h => ?_) (fun h => ?_) <;> (try rw [h]) <;> (replace h := zB h) <;> (try (exfalso; first | exact h | omega))) | apply RK.nil | apply V.sq | apply V.bl | apply V.sc | apply V.skip | apply V.label | apply V.ret | apply V.exit | apply SeqQ.normal | apply SeqQ.ret | apply SeqQ.exit | apply BlockQ.normal | apply BlockQ.ret | apply BlockQ.here | refine zbt ?_ | apply LoopS.ret | apply LoopS.exit | apply LoopF.ret | apply LoopF.exit | apply V.regK | refine zvd ?_ | refine zve ?_ | (refine zvf (fun h => ?_) (fun h => ?_) <;> (replace h := zB h) <;> (try (exfalso; first | exact h | omega))) | (refine zfc Tryz.results95 ?_; (try dsimp only)))
  exact hands_os (b := ⟨52, 3, 0, cesA l, none⟩) (by omega) (by rw [get_push, if_pos rfl]) rfl (flat_ces l)
end
end Go.Am
