
/- The program's screen: set, erase, down. -/
import Derived.Test.YtoeemmlfcnokiaaAScr1
import Derived.Test.YtoeemmlfcnokiaaAmD
set_option linter.all false
set_option linter.deprecated false
namespace Go.Am
open Go.Proofs
set_option maxRecDepth 8000
set_option maxHeartbeats 4000000
theorem app_row : appInfo EA.P 39 = some (45, 32, 2) := by kernel_rfl
theorem flat_rowsA (l : List Rw) : FlatE (rowsA l) := FlatE.map (fun c x hx => by simp at hx; rcases hx with rfl | rfl <;> rfl) l
theorem rowsA_nil {l : List Rw} : rowsA l = [] ↔ l = [] := by cases l <;> simp [rowsA]

/-- The rows of a screen, as a slice. -/
theorem SP.slh {T lo : Nat} {H G : AHeap} {n m e : Nat} {s : Sc} (h : SP T lo H n m e s) (x : Ext H G) : SlH G 2 (.os m e 0 s.rows.length) (rowsA s.rows) :=
  .inr ⟨m, e, 0, _, by rw [rowsA_len], Nat.lt_of_lt_of_le h.mn x.next, by rw [x.get m h.mn]; exact h.rows, rfl, rfl, rfl, by simp, by simp⟩
theorem SP.tail {T lo : Nat} {H G : AHeap} {n m e : Nat} {s : Sc} (h : SP T lo H n m e s) (x : Ext H G) (h1 : 1 ≤ s.rows.length) : SlH G 2 (.os m e 1 (s.rows.length - 1)) (rowsA s.rows.tail) := by
  have := cutA_SlH (lo := 1) (hi := s.rows.length) (h.slh x) h1 (by rw [rowsA_len]; exact Nat.le_refl _)
  rw [show ((rowsA s.rows).drop 1).take (s.rows.length - 1) = rowsA s.rows.tail by
    rw [List.take_of_length_le (by rw [List.length_drop, rowsA_len]; exact Nat.le_refl _)]; unfold rowsA; cases s.rows <;> simp] at this
  exact this
theorem SP.sl1 {T lo : Nat} {H G : AHeap} {n m e : Nat} {s : Sc} (lo' : Nat) (h : SP T lo H n m e s) (x : Ext H G) (h1 : 1 ≤ s.rows.length) : primL lo' G (sliceA EA 39 (.os m e 0 s.rows.length) (some (.v (.int .i64 1))) none none) = some (.os m e 1 (s.rows.length - 1), G, ⟨bitsOf [m], 0, 0⟩) := by
  have := slice_SlH EA lo' (t := 39) (by kernel_rfl) (h.slh x) (some (.v (.int .i64 1))) none (bound_some .i64 1 0 (by omega)) (bound_none _) (by rw [rowsA_len]; exact h1) (Nat.le_refl _)
  rw [rowsA_len] at this
  exact this
section
variable {ys : List (Nat × LRec)} {lo : Nat} {H : AHeap} {A B : AV} {l : List Rw}
theorem CloneR_N (hA : SlH H 2 A (rowsA l)) (h0 : l ≠ []) (hl : l.length < 2 ^ 40) : CallN EA ys lo 40 [A] H (.os H.next 0 0 l.length) (H.push ⟨45, 2, 0, rowsA l, none⟩) := by
  refine WC.ownN (x := fun m => .os m 0 0 l.length) (bs := fun _ => [⟨45, 2, 0, rowsA l, none⟩]) rfl fun lo' H' hh => ?_
  have hA' := hA.two (.inr ⟨[], .inr List.mem_cons_self⟩) hh
  have hlo := lo_two hh
  have h1 : rowsA l ≠ [] := fun e => h0 (rowsA_nil.1 e)
  have happ := append_new EA lo' (H := H') (t := 39) (s := .e0) (.inl rfl) app_row hA' h1 (by rw [rowsA_len]; unfold roomMax; omega)
  have hne := fun xo yo => nilS_no EA lo' hA' (nilS_ne' hA' h1) 39 xo yo (by kernel_rfl)
  rw [rowsA_len] at happ
  refine zvin Try.func40 Try.ntmps40 ?_
  repeat' (first
   | refine zka ?_
   | refine zkb ?_
   | (apply RKp.op; ((try simp (disch := (first | omega | exact zX | exact zO | fail)) only [hne, happ, go_sem, Nat.reduceDiv, Nat.reduceMod, Nat.reduceAdd, Nat.reduceSub, Nat.reduceEqDiff, Nat.reduceLeDiff, Nat.reduceLT, Nat.reduceMul, reduceIte, Nat.reducePow, Int.reduceEq]); exact zL); rfl)
   | refine zkc ?_
   | apply RKg.tt
   | apply RKg.ff
   | refine zkd ?_
   | refine zke ?_
   | refine zkf ?_
   | (refine RKg.split (fun h => ?_) (fun h => ?_) <;> (try rw [h]) <;> (replace h := zB h) <;> (try (exfalso; first | exact h | omega)))
   | apply RK.nil
   | apply V.sq
   | apply V.bl
   | apply V.sc
   | apply V.skip
   | apply V.label
   | apply V.ret
   | apply V.exit
   | apply SeqQ.normal
   | apply SeqQ.ret
   | apply SeqQ.exit
   | apply BlockQ.normal
   | apply BlockQ.ret
   | apply BlockQ.here
   | refine zbt ?_
   | apply LoopS.ret
   | apply LoopS.exit
   | apply LoopF.ret
   | apply LoopF.exit
   | apply V.regK
   | refine zvd ?_
   | refine zve ?_
   | (refine zvf (fun h => ?_) (fun h => ?_) <;> (replace h := zB h) <;> (try (exfalso; first | exact h | omega)))
    | (refine zfc Try.results40 ?_; (try dsimp only)))
  exact hands_os (b := ⟨45, 2, 0, rowsA l, none⟩) (by omega) (by rw [get_push, if_pos rfl]) rfl (flat_rowsA l)
theorem CloneR_E (hA : SlH H 2 A (rowsA [])) (hn : A ≠ .v (.slice none 0 0)) : CallN EA ys lo 40 [A] H .e0 H := by
  refine WC.ownN (x := fun m => .e0) (bs := fun _ => []) rfl fun lo' H' hh => ?_
  have hA' := hA.two (.inr ⟨[], .inr List.mem_cons_self⟩) hh
  have h1 := append_new0 EA lo' (H := H') (t := 39) (s := .e0) (.inl rfl) app_row hA'
  have h2 := fun xo yo => nilS_no EA lo' hA' hn 39 xo yo (by kernel_rfl)
  refine zvin Try.func40 Try.ntmps40 ?_
  repeat' (first
   | refine zka ?_
   | refine zkb ?_
   | (apply RKp.op; ((try simp (disch := (first | omega | exact zX | exact zO | fail)) only [h1, h2, go_sem, Nat.reduceDiv, Nat.reduceMod, Nat.reduceAdd, Nat.reduceSub, Nat.reduceEqDiff, Nat.reduceLeDiff, Nat.reduceLT, Nat.reduceMul, reduceIte, Nat.reducePow, Int.reduceEq]); exact zL); rfl)
   | refine zkc ?_
   | apply RKg.tt
   | apply RKg.ff
   | refine zkd ?_
   | refine zke ?_
   | refine zkf ?_
   | (refine RKg.split (fun h => ?_) (fun h => ?_) <;> (try rw [h]) <;> (replace h := zB h) <;> (try (exfalso; first | exact h | omega)))
   | apply RK.nil
   | apply V.sq
   | apply V.bl
   | apply V.sc
   | apply V.skip
   | apply V.label
   | apply V.ret
   | apply V.exit
   | apply SeqQ.normal
   | apply SeqQ.ret
   | apply SeqQ.exit
   | apply BlockQ.normal
   | apply BlockQ.ret
   | apply BlockQ.here
   | refine zbt ?_
   | apply LoopS.ret
   | apply LoopS.exit
   | apply LoopF.ret
   | apply LoopF.exit
   | apply V.regK
   | refine zvd ?_
   | refine zve ?_
   | (refine zvf (fun h => ?_) (fun h => ?_) <;> (replace h := zB h) <;> (try (exfalso; first | exact h | omega)))
    | (refine zfc Try.results40 ?_; (try dsimp only)))
  exact hands_flat rfl

/-- A row behind those of a new block. -/
theorem app_rows1 (lo : Nat) (G : AHeap) (l : List Rw) (c : List Ce) (b : Bool) (k : Nat) (hk : G.next = k) (hlo : lo ≤ k) (hl : l.length < 2 ^ 30) : primL lo ((G.push ⟨45, 2, 0, rowsA l, none⟩).push ⟨45, 2, 0, [[.sl 3 (cesA c), .v (.bool b)]], none⟩) (appendA EA 39 (.os k 0 0 l.length) (.os (k + 1) 0 0 1)) = some (.os k 1 0 (l.length + 1), ((G.push ⟨45, 2, 0, rowsA l, none⟩).push ⟨45, 2, 0, [[.sl 3 (cesA c), .v (.bool b)]], none⟩).set k ⟨45, 2, 1, rowsA (l ++ [(c, b)]), none⟩, ⟨bitsOf [k, k + 1], 2 ^ k, 0⟩) := by
  subst hk
  have h := app_one_os EA lo (H := G.push ⟨45, 2, 0, rowsA l, none⟩) (n := G.next) (len := l.length) app_row (by rw [get_push, if_pos rfl]) (by rw [next_push]; omega) (rowsA_len l).symm hlo (by unfold roomMax; omega) [.sl 3 (cesA c), .v (.bool b)]
  rw [rowsA_app]
  exact h
theorem app_rows0 (lo : Nat) (H : AHeap) (c : List Ce) (b : Bool) (k : Nat) (hk : H.next = k) : primL lo (H.push ⟨45, 2, 0, [[.sl 3 (cesA c), .v (.bool b)]], none⟩) (appendA EA 39 .e0 (.os k 0 0 1)) = some (.os (k + 1) 0 0 1, (H.push ⟨45, 2, 0, [[.sl 3 (cesA c), .v (.bool b)]], none⟩).push ⟨45, 2, 0, [[.sl 3 (cesA c), .v (.bool b)]], none⟩, ⟨bitsOf [k], 2 ^ (k + 1), 0⟩) := by
  subst hk
  exact app_one_new EA lo H app_row (by unfold roomMax; omega) [.sl 3 (cesA c), .v (.bool b)] (.inl rfl)
end
section
variable {ys : List (Nat × LRec)} {lo : Nat} {H : AHeap} {n m e : Nat} {s : Sc}
theorem ScG.curl (hg : ScG s) : s.cur.1.length < 2 ^ 40 ∧ s.cur.1 ≠ [] := by
  have h := hg.at_.2.2; have := hg.w2; have := hg.w3
  exact ⟨by omega, fun e => by rw [e] at h; simp at h; omega⟩
theorem set_run (hS : SP 73 lo H n m e s) (hg : ScG s) {B : AV} {c : List Ce} (hB : SlH H 3 B (cesA c)) (hc : c.length < 2 ^ 40) : CallO EA ys lo 55 [.op n 0 0 0, B] H (.tup []) (H.set m ⟨45, 2, e, rowsA (s.rows.set s.row.toNat (rowSet s.cur s.col c)), none⟩) := by
  have ⟨nl, ml, nn, mn, ne, hb, hm⟩ := hS
  obtain ⟨c1, c2⟩ := hg.curl
  have r0 := hg.r0; have rh := hg.rh; have hlen := hg.len; have cc0 := hg.c0; have ccw := hg.cw; have w3 := hg.w3
  have hset := fun ys => Set_D (ys := ys) (lo := lo) (H := H) (wr := s.cur.2) hB c2 c1 hc s.col (by omega)
  unfold Sc.cur at hset
  refine WC.effO rfl ?_
  refine zvin Try.func55 Try.ntmps55 ?_
  repeat' (first
   | refine zka ?_
   | refine zkb ?_
   | (apply RKp.op; ((try simp (disch := (first | omega | exact zX | exact zO | fail)) only [hb, hm, nth_rowsA, rowsA_len, rowsA_set, go_sem, Nat.reduceDiv, Nat.reduceMod, Nat.reduceAdd, Nat.reduceSub, Nat.reduceEqDiff, Nat.reduceLeDiff, Nat.reduceLT, Nat.reduceMul, reduceIte, Nat.reducePow, Int.reduceEq]); exact zL); rfl)
   | (apply RKp.callR; (apply hset <;> (exact zD)); rfl; intro tr htr)
   | refine zkc ?_
   | apply RKg.tt
   | apply RKg.ff
   | refine zkd ?_
   | refine zke ?_
   | refine zkf ?_
   | (refine RKg.split (fun h => ?_) (fun h => ?_) <;> (try rw [h]) <;> (replace h := zB h) <;> (try (exfalso; first | exact h | omega)))
   | apply RK.nil
   | apply V.sq
   | apply V.bl
   | apply V.sc
   | apply V.skip
   | apply V.label
   | apply V.ret
   | apply V.exit
   | apply SeqQ.normal
   | apply SeqQ.ret
   | apply SeqQ.exit
   | apply BlockQ.normal
   | apply BlockQ.ret
   | apply BlockQ.here
   | refine zbt ?_
   | apply LoopS.ret
   | apply LoopS.exit
   | apply LoopF.ret
   | apply LoopF.exit
   | apply V.regK
    | refine zva ?_
   | refine zvb ?_
   | refine zgc ?_
   | refine zvd ?_
   | refine zve ?_
   | (refine zvf (fun h => ?_) (fun h => ?_) <;> (replace h := zB h) <;> (try (exfalso; first | exact h | omega)))
    | (refine zfa Try.results55 ?_; (try dsimp only))
   | (refine zfb Try.results55 ?_; (try dsimp only)))
  exact ⟨rfl, rfl⟩
end
end Go.Am
