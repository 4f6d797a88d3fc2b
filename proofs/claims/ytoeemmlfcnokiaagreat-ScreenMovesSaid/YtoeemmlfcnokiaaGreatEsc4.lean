/- The reference's parser: Put. -/
import Derived.Test.YtoeemmlfcnokiaaGreatEsc3
set_option linter.all false
set_option linter.deprecated false
namespace Go.Am
open Go.Proofs
set_option maxRecDepth 8000
set_option maxHeartbeats 1000000
section
variable {ys : List (Nat × LRec)} {lo : Nat} {H : AHeap} {F : Nat → Prop} {n : Nat} {w : Int} {t : List Int}
abbrev rBlk (w : Int) (T : AV) : Blk := ⟨31, 2, 0, [[.v (.int .i64 w), T]], none⟩
structure RP (H : AHeap) (F : Nat → Prop) (n : Nat) (w : Int) (t : List Int) (T : AV) : Prop where
  own : F n
  lt : n < H.next
  blk : H.get n = some (rBlk w T)
  ct : cellsOf T = some [T]
  w4 : w = 0 ∨ w = 1 ∨ w = 2 ∨ w = 3 ∨ w = 4
  txt : w = 2 ∨ w = 3 ∨ w = 4 → OwnS H F 21 1 T (runes t)
theorem RP.keep {T : AV} (h : RP H F n w t T) {H' : AHeap} {F' : Nat → Prop} (hF : ∀ k, F k → F' k) (hn : H.next ≤ H'.next) (hk : ∀ k, F k → k < H.next → H'.get k = H.get k) : RP H' F' n w t T :=
  ⟨hF n h.own, Nat.lt_of_lt_of_le h.lt hn, by rw [hk n h.own h.lt, h.blk], h.ct, h.w4, fun hw => (h.txt hw).frame hF hn hk⟩
theorem RP.st {T : AV} (h : RP H F n w t T) (w' : Int) {t' : List Int} (hw : w' = 0 ∨ w' = 1 ∨ (w' = 4 ∧ w = 3 ∧ t' = t)) {F' : Nat → Prop} (hF : ∀ k, F k → F' k) : RP (H.set n (rBlk w' T)) F' n w' t' T :=
  ⟨hF n h.own, h.lt, by rw [get_set, if_pos rfl], h.ct, by omega, fun e => by
    have h3 : w = 3 := by omega
    obtain rfl : t' = t := by rcases hw with h | h | h <;> first | omega | exact h.2.2
    exact ((h.txt (.inr (.inl h3))).set h.blk (Nat.ne_of_beq_eq_false rfl) _).mono hF⟩
/-- What the reference's calls tell. -/
def RefEv (x : AV) (e : Option Ev) : Prop := ∃ k r A s, x = .tup [evA k r A s, .v (.bool e.isSome)] ∧ ∀ ev, e = some ev → k = ev.kind ∧ r = ev.r ∧ s = ev.text ∧ Sl 1 A (ints ev.args)
theorem osc_wc (hlo : ∀ k, F k → lo ≤ k) {T : AV} (hP : RP H F n w t T) (hw : w = 3 ∨ w = 4) (ht : t.length < 2 ^ 20) : WC EZ ys lo 57 [.op n 0 0 0] H fun R H' => Turn F H H' ∧ RP H' (grow F H H') n 0 t T ∧ RefEv R (oscEv t) := by
  have hb := hP.blk
  unfold rBlk at hb
  have hln := hlo n hP.own
  have hne : ¬ H.next = n := by have := hP.lt; omega
  have hlx : lo ≤ H.next := by have := hP.lt; omega
  have hx := hP.ct
  have hT := hP.txt (by omega)
  have hT1 := ((hT.set hb (Nat.ne_of_beq_eq_false rfl) (rBlk 0 T)).push ⟨35, 4, 0, [[.v (.int .i64 0), .v (.int .i32 0), .v (.slice none 0 0), .v (.string ⟨#[]⟩)]], none⟩).slh
  obtain ⟨tr, htr, hc⟩ := WC.pureAny (E := EZ) (ys := ys) (lo := lo) (f := 87) (args := [T]) (H := (H.set n (rBlk 0 T)).push ⟨35, 4, 0, [[.v (.int .i64 0), .v (.int .i32 0), .v (.slice none 0 0), .v (.string ⟨#[]⟩)]], none⟩) (x := .v (.string (strOfNums (utf8 t)))) rfl (fun lo' H' h => by
    obtain ⟨n, r, H2, h1, h2⟩ := Write_wc lo' H' T t (by
      rcases h with ⟨rfl, rfl⟩ | ⟨rfl, rfl, hn⟩
      · exact hT1
      · exact nf_SlH_empty hT1 (by simpa using hn)) ht
    exact ⟨n, r, H2, h1, by rw [h2]; rfl⟩)
  refine zvin Tryz.func57 Tryz.ntmps57 ?_
  repeat' (first
   | apply V.sq
   | apply V.bl
   | apply V.sc
   | apply V.skip
   | apply V.label
   | apply V.ret
   | apply V.exit
   | apply SeqQ.normal
   | apply SeqQ.ret
   | apply SeqQ.exit
   | apply BlockQ.normal
   | apply BlockQ.ret
   | apply BlockQ.here
   | refine zbt ?_
   | apply LoopS.ret
   | apply LoopS.exit
   | apply LoopF.ret
   | apply LoopF.exit
   | (apply V.reg; (focus ((repeat (first
   | exact RO.nil
   | (apply RO.op; rfl; (simp only [hb, hln, hne, hlx, hx, str_size, go_sem, get_nth, fieldAddrA, Nat.reduceDiv, Nat.reduceMod, Nat.reduceAdd, Nat.reduceSub, Nat.reduceEqDiff, Nat.reduceLeDiff, Nat.reduceLT, Nat.reduceMul, reduceIte, Nat.reducePow, Int.reduceEq, List.toList_toArray]; exact zL); rfl)
   | (apply RO.opg; exact zW; (intro h; (try simp only [Bool.and_eq_true, Bool.not_eq_true', Bool.not_eq_eq_eq_not, Bool.not_true] at h); simp only [h, hb, hln, hne, hlx, hx, str_size, go_sem, get_nth, fieldAddrA, Nat.reduceDiv, Nat.reduceMod, Nat.reduceAdd, Nat.reduceSub, Nat.reduceEqDiff, Nat.reduceLeDiff, Nat.reduceLT, Nat.reduceMul, reduceIte, Nat.reducePow, Int.reduceEq, List.toList_toArray]; exact zL); rfl)
   | (apply RO.call; exact want0 rfl; (simp only [hb, hln, hne, hlx, hx, str_size, go_sem, get_nth, fieldAddrA, Nat.reduceDiv, Nat.reduceMod, Nat.reduceAdd, Nat.reduceSub, Nat.reduceEqDiff, Nat.reduceLeDiff, Nat.reduceLT, Nat.reduceMul, reduceIte, Nat.reducePow, Int.reduceEq, List.toList_toArray]; rfl); (first | (apply hc <;> (exact zD))); rfl)
   | (apply RO.callg; exact zW; (intro h; (try simp only [Bool.and_eq_true, Bool.not_eq_true', Bool.not_eq_eq_eq_not, Bool.not_true] at h); simp only [h, hb, hln, hne, hlx, hx, str_size, go_sem, get_nth, fieldAddrA, Nat.reduceDiv, Nat.reduceMod, Nat.reduceAdd, Nat.reduceSub, Nat.reduceEqDiff, Nat.reduceLeDiff, Nat.reduceLT, Nat.reduceMul, reduceIte, Nat.reducePow, Int.reduceEq, List.toList_toArray]; rfl); (intro h; (try simp only [Bool.and_eq_true, Bool.not_eq_true', Bool.not_eq_eq_eq_not, Bool.not_true] at h); (first | (apply hc <;> (exact zD)))); rfl)
   | (apply RO.no; apply wantNo; exact zW; (first | rfl | (focus (simp only [hb, hln, hne, hlx, hx, str_size, Bool.and_false, Bool.false_and, Bool.not_true, Bool.not_false, decide_true, decide_false, Bool.or_true, Bool.true_or, not_true_eq_false, not_false_eq_true, Bool.and_true, Bool.true_and]; done))); rfl))); done)))
   | (apply V.regd; (focus ((repeat (first
   | exact RO.nil
   | (apply RO.op; rfl; (simp only [hb, hln, hne, hlx, hx, str_size, go_sem, get_nth, fieldAddrA, Nat.reduceDiv, Nat.reduceMod, Nat.reduceAdd, Nat.reduceSub, Nat.reduceEqDiff, Nat.reduceLeDiff, Nat.reduceLT, Nat.reduceMul, reduceIte, Nat.reducePow, Int.reduceEq, List.toList_toArray]; exact zL); rfl)
   | (apply RO.opg; exact zW; (intro h; (try simp only [Bool.and_eq_true, Bool.not_eq_true', Bool.not_eq_eq_eq_not, Bool.not_true] at h); simp only [h, hb, hln, hne, hlx, hx, str_size, go_sem, get_nth, fieldAddrA, Nat.reduceDiv, Nat.reduceMod, Nat.reduceAdd, Nat.reduceSub, Nat.reduceEqDiff, Nat.reduceLeDiff, Nat.reduceLT, Nat.reduceMul, reduceIte, Nat.reducePow, Int.reduceEq, List.toList_toArray]; exact zL); rfl)
   | (apply RO.call; exact want0 rfl; (simp only [hb, hln, hne, hlx, hx, str_size, go_sem, get_nth, fieldAddrA, Nat.reduceDiv, Nat.reduceMod, Nat.reduceAdd, Nat.reduceSub, Nat.reduceEqDiff, Nat.reduceLeDiff, Nat.reduceLT, Nat.reduceMul, reduceIte, Nat.reducePow, Int.reduceEq, List.toList_toArray]; rfl); (first | (apply hc <;> (exact zD))); rfl)
   | (apply RO.callg; exact zW; (intro h; (try simp only [Bool.and_eq_true, Bool.not_eq_true', Bool.not_eq_eq_eq_not, Bool.not_true] at h); simp only [h, hb, hln, hne, hlx, hx, str_size, go_sem, get_nth, fieldAddrA, Nat.reduceDiv, Nat.reduceMod, Nat.reduceAdd, Nat.reduceSub, Nat.reduceEqDiff, Nat.reduceLeDiff, Nat.reduceLT, Nat.reduceMul, reduceIte, Nat.reducePow, Int.reduceEq, List.toList_toArray]; rfl); (intro h; (try simp only [Bool.and_eq_true, Bool.not_eq_true', Bool.not_eq_eq_eq_not, Bool.not_true] at h); (first | (apply hc <;> (exact zD)))); rfl)
   | (apply RO.no; apply wantNo; exact zW; (first | rfl | (focus (simp only [hb, hln, hne, hlx, hx, str_size, Bool.and_false, Bool.false_and, Bool.not_true, Bool.not_false, decide_true, decide_false, Bool.or_true, Bool.true_or, not_true_eq_false, not_false_eq_true, Bool.and_true, Bool.true_and]; done))); rfl))); done)); exact zK; exact zE)
   | (refine zvf (fun h => ?_) (fun h => ?_) <;> (replace h := zB h) <;> (try (exfalso; first | exact h | omega)))
   | (refine FnQ.retB (resct Tryz.results57) (by simp (disch := (first | omega | exact zX | fail)) only [cellR_op, hb, hln, hne, hlx, hx, str_size, go_sem, Nat.reduceDiv, Nat.reduceMod, Nat.reduceAdd, Nat.reduceSub, Nat.reduceEqDiff, Nat.reduceLeDiff, Nat.reduceLT, Nat.reduceMul, reduceIte, Nat.reducePow, Int.reduceEq]; rfl) ?_; (try dsimp only)))
  refine ⟨((Turn.refl F H).set n _ (.inl hP.own)).push _, (hP.st 0 (t' := t) (.inl rfl) (fun k (h : F k) => h)).keep growF (Nat.le_succ _) (fun k hk hl => by rw [get_push, if_neg (by rw [next_set] at hl ⊢; omega)]), ?_⟩
  have e1 : decide (((utf8 t).length : Int) ≤ 4000) = (oscEv t).isSome := by
    unfold oscEv
    by_cases h : (utf8 t).length ≤ 4000
    · rw [if_pos h, decide_eq_true (by omega)]; rfl
    · rw [if_neg h, decide_eq_false (by omega)]; rfl
  refine ⟨4, 0, .v (.slice none 0 0), strOfNums (utf8 t), by rw [e1]; rfl, fun ev hev => ?_⟩
  unfold oscEv at hev
  split at hev
  · cases hev; exact ⟨rfl, rfl, rfl, .inr ⟨rfl, .inr rfl⟩⟩
  · cases hev
theorem RP.fin0 {T : AV} (hP : RP H F n w t T) (b : Blk) : Turn F H (H.push b) ∧ RP (H.push b) (grow F H (H.push b)) n w t T :=
  ⟨(Turn.refl F H).push _, hP.keep growF (Nat.le_succ _) fun k hk hl => by rw [get_push, if_neg (by omega)]⟩
theorem RP.fin1 {T : AV} (hP : RP H F n w t T) (w' : Int) {t' : List Int} (hw : w' = 0 ∨ w' = 1 ∨ (w' = 4 ∧ w = 3 ∧ t' = t)) (b : Blk) : Turn F H ((H.set n (rBlk w' T)).push b) ∧ RP ((H.set n (rBlk w' T)).push b) (grow F H ((H.set n (rBlk w' T)).push b)) n w' t' T :=
  ⟨((Turn.refl F H).set n _ (.inl hP.own)).push _, (hP.st w' (t' := t') hw (fun k (h : F k) => h)).keep growF (Nat.le_succ _) fun k hk hl => by rw [get_push, if_neg (by rw [next_set] at hl ⊢; omega)]⟩
theorem RP.fin2 {T : AV} (hP : RP H F n w t T) (w' : Int) (hw : w' = 0 ∨ w' = 1 ∨ w' = 2 ∨ w' = 3) (b : Blk) : Turn F H ((H.set n (rBlk w' nilA)).push b) ∧ RP ((H.set n (rBlk w' nilA)).push b) (grow F H ((H.set n (rBlk w' nilA)).push b)) n w' [] nilA :=
  ⟨((Turn.refl F H).set n _ (.inl hP.own)).push _, .inl hP.own, Nat.lt_succ_of_lt hP.lt, by rw [get_push, if_neg (by have := hP.lt; rw [next_set]; omega), get_set, if_pos rfl], rfl, by omega, fun _ => OwnS.nil⟩
theorem RefEv.no (k r : Int) (A : AV) (s : ByteArray) : RefEv (.tup [evA k r A s, .v (.bool false)]) none := ⟨k, r, A, s, rfl, fun ev h => by cases h⟩
theorem RefEv.yes (k r : Int) (s : ByteArray) : RefEv (.tup [evA k r nilA s, .v (.bool true)]) (some ⟨k, r, [], s⟩) := ⟨k, r, nilA, s, rfl, fun ev h => by cases h; exact ⟨rfl, rfl, rfl, .inr ⟨rfl, .inr rfl⟩⟩⟩
theorem runes_snoc (t : List Int) (r : Int) : runes t ++ [[.v (.int .i32 r)]] = runes (t ++ [r]) := by simp [runes]
abbrev zEv : Blk := ⟨35, 4, 0, [[.v (.int .i64 0), .v (.int .i32 0), .v (.slice none 0 0), .v (.string ⟨#[]⟩)]], none⟩
/-- A sign behind the text. -/
theorem RP.app {T : AV} (hlo : ∀ k, F k → lo ≤ k) (hFl : ∀ k, F k → k < H.next) (hP : RP H F n w t T) (hw : w = 2 ∨ w = 3) (r : Int) (ht : t.length < 2 ^ 20) : ∃ R G tr, primL lo ((H.push zEv).push ⟨21, 1, 0, [[.v (.int .i32 r)]], none⟩) (appendA EZ 22 T (.os (H.next + 1) 0 0 1)) = some (R, G, tr) ∧
    cellsOf R = some [R] ∧ G.get n = some (rBlk w T) ∧ G.get H.next = some zEv ∧ ∀ b, Turn F H ((G.set n (rBlk w R)).set H.next b) ∧ RP ((G.set n (rBlk w R)).set H.next b) (grow F H ((G.set n (rBlk w R)).set H.next b)) n w (t ++ [r]) R := by
  have hT := (hP.txt (by omega)).push zEv
  obtain ⟨hs, hs2⟩ := hT.self
  obtain ⟨R, G, tr, hap⟩ := append_lits EZ lo (t := 22) (bytes := 4) (by kernel_rfl) hs (fun k hk => (hs2 k hk).2.1) (fun k hk => hlo k (hs2 k hk).1) (by rw [runes_len]; show (t.length + 8) * 4 ≤ 140737488355328; omega)
  obtain ⟨h1, h2, h3, h4⟩ := hap [[.v (.int .i32 r)]] 1 rfl (by decide) (by decide)
  have hn : ¬ nameOf T n := fun hn => by
    obtain ⟨_, _, e, es, hg⟩ := hs2 n hn
    rw [get_push, if_neg (by have := hP.lt; omega), hP.blk] at hg; cases hg
  have hz : ¬ nameOf T H.next := fun hn => by
    have := hFl _ (hs2 _ hn).1; omega
  have g1 : (G [[.v (.int .i32 r)]] 1).get n = some (rBlk w T) := by rw [h2.keep n (Nat.lt_succ_of_lt hP.lt) hn, get_push, if_neg (by have := hP.lt; omega), hP.blk]
  have g2 : (G [[.v (.int .i32 r)]] 1).get H.next = some zEv := by rw [h2.keep _ (Nat.lt_succ_self _) hz, get_push, if_pos rfl]
  have hT3 : Turn F H (G [[.v (.int .i32 r)]] 1) := ⟨Nat.le_trans (Nat.le_succ _) h2.next, h2.js, fun k hk hf => by rw [h2.keep k (Nat.lt_succ_of_lt hk) (fun h => hf (hs2 k h).1), get_push, if_neg (by omega)]⟩
  refine ⟨R 1, G _ 1, tr 1, h1, cells_SlH h3.slh, g1, g2, fun b => ⟨(hT3.set n _ (.inl hP.own)).set _ _ (.inr (Nat.le_refl _)), ?_⟩⟩
  have hnn : n ≠ H.next := by have := hP.lt; omega
  refine ⟨.inl hP.own, Nat.lt_of_lt_of_le hP.lt hT3.next, by rw [get_set, if_neg (Ne.symm hnn), get_set, if_pos rfl], cells_SlH h3.slh, hP.w4, fun _ => ?_⟩
  have hO := (h3.set g1 (Nat.ne_of_beq_eq_false rfl) (rBlk w (R 1)))
  have g3 : ((G [[.v (.int .i32 r)]] 1).set n (rBlk w (R 1))).get H.next = some zEv := by rw [get_set, if_neg hnn]; exact g2
  rw [← runes_snoc]
  exact (hO.set g3 (Nat.ne_of_beq_eq_false rfl) b).mono fun k hk => hk.elim (fun h => .inl (hs2 k h).1) (fun h => .inr ⟨Nat.le_of_succ_le h.1, h.2⟩)
theorem put_one (w : Int) (hw : w = 1 ∨ w = 4) (t : List Int) (r : Int) (h : w = 4 → r ≠ 92) : put w t r = (if r = 91 then 2 else if r = 93 then 3 else if r = 27 then 1 else 0, [], none) := by
  unfold put
  rw [if_neg (by omega), if_pos (by omega)]
theorem put_zero (t : List Int) (r : Int) : put 0 t r = if ctrlB r then (0, t, some ⟨2, r, [], emptyB⟩) else if r = 27 then (1, t, none) else if 32 ≤ r ∧ r ≠ 127 then (0, t, some ⟨1, r, [], emptyB⟩) else (0, t, none) := by
  unfold put
  rw [if_neg (by omega), if_neg (by omega), if_pos rfl]
theorem refPutP_wc (hlo : ∀ k, F k → lo ≤ k) (hFl : ∀ k, F k → k < H.next) {T : AV} (hP : RP H F n w t T) (r : Int) (hr : -2147483648 ≤ r ∧ r ≤ 2147483647) (ht : t.length < 2 ^ 20) (hc : ∀ c ∈ t, -2147483648 ≤ c ∧ c ≤ 2147483647) : WC EZ ys lo 16 [.op n 0 0 0, .v (.int .i32 r)] H fun R H' => Turn F H H' ∧ (∃ T, RP H' (grow F H H') n (put w t r).1 (put w t r).2.1 T) ∧ RefEv R (put w t r).2.2 := by
  have hb := hP.blk
  unfold rBlk at hb
  have hln := hlo n hP.own
  have hne : ¬ H.next = n := by have := hP.lt; omega
  have hnn : ¬ n = H.next := fun h => hne h.symm
  have hlx : lo ≤ H.next := by have := hP.lt; omega
  have hx := hP.ct
  have hP0 := (hP.fin0 zEv).2
  have hF0 : ∀ k, F k → k < (H.push zEv).next := fun k hk => Nat.lt_succ_of_lt (hFl k hk)
  have hPp := hP.keep (H' := H.push zEv) (F' := F) (fun k h => h) (Nat.le_succ _) (fun k hk hl => by rw [get_push, if_neg (by omega)])
  rcases hP.w4 with rfl | rfl | rfl | rfl | rfl
  · refine zvin Tryz.func16 Tryz.ntmps16 ?_
    repeat' (first
     | apply V.sq
     | apply V.bl
     | apply V.sc
     | apply V.skip
     | apply V.label
     | apply V.ret
     | apply V.exit
     | apply SeqQ.normal
     | apply SeqQ.ret
     | apply SeqQ.exit
     | apply BlockQ.normal
     | apply BlockQ.ret
     | apply BlockQ.here
     | refine zbt ?_
     | apply LoopS.ret
     | apply LoopS.exit
     | apply LoopF.ret
     | apply LoopF.exit
     | (apply V.reg; (focus ((repeat (first
     | exact RO.nil
     | (apply RO.op; rfl; (simp only [hb, hln, hne, hlx, hx, go_sem, get_nth, fieldAddrA, Nat.reduceDiv, Nat.reduceMod, Nat.reduceAdd, Nat.reduceSub, Nat.reduceEqDiff, Nat.reduceLeDiff, Nat.reduceLT, Nat.reduceMul, reduceIte, Nat.reducePow, Int.reduceEq, List.toList_toArray]; exact zL); rfl)
     | (apply RO.opg; exact zW; (intro h; (try simp only [Bool.and_eq_true, Bool.not_eq_true', Bool.not_eq_eq_eq_not, Bool.not_true] at h); simp only [h, hb, hln, hne, hlx, hx, go_sem, get_nth, fieldAddrA, Nat.reduceDiv, Nat.reduceMod, Nat.reduceAdd, Nat.reduceSub, Nat.reduceEqDiff, Nat.reduceLeDiff, Nat.reduceLT, Nat.reduceMul, reduceIte, Nat.reducePow, Int.reduceEq, List.toList_toArray]; exact zL); rfl)
     | (apply RO.call; exact want0 rfl; (simp only [hb, hln, hne, hlx, hx, go_sem, get_nth, fieldAddrA, Nat.reduceDiv, Nat.reduceMod, Nat.reduceAdd, Nat.reduceSub, Nat.reduceEqDiff, Nat.reduceLeDiff, Nat.reduceLT, Nat.reduceMul, reduceIte, Nat.reducePow, Int.reduceEq, List.toList_toArray]; rfl); fail; rfl)
     | (apply RO.callg; exact zW; (intro h; (try simp only [Bool.and_eq_true, Bool.not_eq_true', Bool.not_eq_eq_eq_not, Bool.not_true] at h); simp only [h, hb, hln, hne, hlx, hx, go_sem, get_nth, fieldAddrA, Nat.reduceDiv, Nat.reduceMod, Nat.reduceAdd, Nat.reduceSub, Nat.reduceEqDiff, Nat.reduceLeDiff, Nat.reduceLT, Nat.reduceMul, reduceIte, Nat.reducePow, Int.reduceEq, List.toList_toArray]; rfl); (intro h; (try simp only [Bool.and_eq_true, Bool.not_eq_true', Bool.not_eq_eq_eq_not, Bool.not_true] at h); fail); rfl)
     | (apply RO.no; apply wantNo; exact zW; (first | rfl | (focus (simp only [hb, hln, hne, hlx, hx, Bool.and_false, Bool.false_and, Bool.not_true, Bool.not_false, decide_true, decide_false, Bool.or_true, Bool.true_or, not_true_eq_false, not_false_eq_true, Bool.and_true, Bool.true_and]; done))); rfl))); done)))
     | (apply V.regd; (focus ((repeat (first
     | exact RO.nil
     | (apply RO.op; rfl; (simp only [hb, hln, hne, hlx, hx, go_sem, get_nth, fieldAddrA, Nat.reduceDiv, Nat.reduceMod, Nat.reduceAdd, Nat.reduceSub, Nat.reduceEqDiff, Nat.reduceLeDiff, Nat.reduceLT, Nat.reduceMul, reduceIte, Nat.reducePow, Int.reduceEq, List.toList_toArray]; exact zL); rfl)
     | (apply RO.opg; exact zW; (intro h; (try simp only [Bool.and_eq_true, Bool.not_eq_true', Bool.not_eq_eq_eq_not, Bool.not_true] at h); simp only [h, hb, hln, hne, hlx, hx, go_sem, get_nth, fieldAddrA, Nat.reduceDiv, Nat.reduceMod, Nat.reduceAdd, Nat.reduceSub, Nat.reduceEqDiff, Nat.reduceLeDiff, Nat.reduceLT, Nat.reduceMul, reduceIte, Nat.reducePow, Int.reduceEq, List.toList_toArray]; exact zL); rfl)
     | (apply RO.call; exact want0 rfl; (simp only [hb, hln, hne, hlx, hx, go_sem, get_nth, fieldAddrA, Nat.reduceDiv, Nat.reduceMod, Nat.reduceAdd, Nat.reduceSub, Nat.reduceEqDiff, Nat.reduceLeDiff, Nat.reduceLT, Nat.reduceMul, reduceIte, Nat.reducePow, Int.reduceEq, List.toList_toArray]; rfl); fail; rfl)
     | (apply RO.callg; exact zW; (intro h; (try simp only [Bool.and_eq_true, Bool.not_eq_true', Bool.not_eq_eq_eq_not, Bool.not_true] at h); simp only [h, hb, hln, hne, hlx, hx, go_sem, get_nth, fieldAddrA, Nat.reduceDiv, Nat.reduceMod, Nat.reduceAdd, Nat.reduceSub, Nat.reduceEqDiff, Nat.reduceLeDiff, Nat.reduceLT, Nat.reduceMul, reduceIte, Nat.reducePow, Int.reduceEq, List.toList_toArray]; rfl); (intro h; (try simp only [Bool.and_eq_true, Bool.not_eq_true', Bool.not_eq_eq_eq_not, Bool.not_true] at h); fail); rfl)
     | (apply RO.no; apply wantNo; exact zW; (first | rfl | (focus (simp only [hb, hln, hne, hlx, hx, Bool.and_false, Bool.false_and, Bool.not_true, Bool.not_false, decide_true, decide_false, Bool.or_true, Bool.true_or, not_true_eq_false, not_false_eq_true, Bool.and_true, Bool.true_and]; done))); rfl))); done)); exact zK; exact zE)
     | (refine zvf (fun h => ?_) (fun h => ?_) <;> (replace h := zB h) <;> (try (exfalso; first | exact h | omega)))
     | (refine FnQ.retB (resct Tryz.results16) (by simp (disch := (first | omega | exact zX | fail)) only [cellR_op, hb, hln, hne, hlx, hx, go_sem, Nat.reduceDiv, Nat.reduceMod, Nat.reduceAdd, Nat.reduceSub, Nat.reduceEqDiff, Nat.reduceLeDiff, Nat.reduceLT, Nat.reduceMul, reduceIte, Nat.reducePow, Int.reduceEq]; rfl) ?_; (try dsimp only)))
    · have hh : ctrlB r = true := decide_eq_true (by omega)
      rw [put_zero, hh, if_pos rfl]
      exact ⟨(hP.fin0 _).1, ⟨_, (hP.fin0 _).2⟩, .yes _ _ _⟩
    · subst h
      exact ⟨(hP.fin1 1 (t' := t) (.inr (.inl rfl)) _).1, ⟨_, (hP.fin1 1 (.inr (.inl rfl)) _).2⟩, .no _ _ _ _⟩
    · have hh : ctrlB r = false := decide_eq_false (by omega)
      rw [put_zero, hh, if_neg (by decide), if_neg (by omega), if_pos (by omega)]
      exact ⟨(hP.fin0 _).1, ⟨_, (hP.fin0 _).2⟩, .yes _ _ _⟩
    · have hh : ctrlB r = false := decide_eq_false (by omega)
      rw [put_zero, hh, if_neg (by decide), if_neg (by omega), if_neg (by omega)]
      exact ⟨(hP.fin0 _).1, ⟨_, (hP.fin0 _).2⟩, .no _ _ _ _⟩
  · rw [put_one 1 (.inl rfl) t r (by omega)]
    refine zvin Tryz.func16 Tryz.ntmps16 ?_
    repeat' (first
     | apply V.sq
     | apply V.bl
     | apply V.sc
     | apply V.skip
     | apply V.label
     | apply V.ret
     | apply V.exit
     | apply SeqQ.normal
     | apply SeqQ.ret
     | apply SeqQ.exit
     | apply BlockQ.normal
     | apply BlockQ.ret
     | apply BlockQ.here
     | refine zbt ?_
     | apply LoopS.ret
     | apply LoopS.exit
     | apply LoopF.ret
     | apply LoopF.exit
     | (apply V.reg; (focus ((repeat (first
     | exact RO.nil
     | (apply RO.op; rfl; (simp only [hb, hln, hne, hlx, hx, go_sem, get_nth, fieldAddrA, Nat.reduceDiv, Nat.reduceMod, Nat.reduceAdd, Nat.reduceSub, Nat.reduceEqDiff, Nat.reduceLeDiff, Nat.reduceLT, Nat.reduceMul, reduceIte, Nat.reducePow, Int.reduceEq, List.toList_toArray]; exact zL); rfl)
     | (apply RO.opg; exact zW; (intro h; (try simp only [Bool.and_eq_true, Bool.not_eq_true', Bool.not_eq_eq_eq_not, Bool.not_true] at h); simp only [h, hb, hln, hne, hlx, hx, go_sem, get_nth, fieldAddrA, Nat.reduceDiv, Nat.reduceMod, Nat.reduceAdd, Nat.reduceSub, Nat.reduceEqDiff, Nat.reduceLeDiff, Nat.reduceLT, Nat.reduceMul, reduceIte, Nat.reducePow, Int.reduceEq, List.toList_toArray]; exact zL); rfl)
     | (apply RO.call; exact want0 rfl; (simp only [hb, hln, hne, hlx, hx, go_sem, get_nth, fieldAddrA, Nat.reduceDiv, Nat.reduceMod, Nat.reduceAdd, Nat.reduceSub, Nat.reduceEqDiff, Nat.reduceLeDiff, Nat.reduceLT, Nat.reduceMul, reduceIte, Nat.reducePow, Int.reduceEq, List.toList_toArray]; rfl); fail; rfl)
     | (apply RO.callg; exact zW; (intro h; (try simp only [Bool.and_eq_true, Bool.not_eq_true', Bool.not_eq_eq_eq_not, Bool.not_true] at h); simp only [h, hb, hln, hne, hlx, hx, go_sem, get_nth, fieldAddrA, Nat.reduceDiv, Nat.reduceMod, Nat.reduceAdd, Nat.reduceSub, Nat.reduceEqDiff, Nat.reduceLeDiff, Nat.reduceLT, Nat.reduceMul, reduceIte, Nat.reducePow, Int.reduceEq, List.toList_toArray]; rfl); (intro h; (try simp only [Bool.and_eq_true, Bool.not_eq_true', Bool.not_eq_eq_eq_not, Bool.not_true] at h); fail); rfl)
     | (apply RO.no; apply wantNo; exact zW; (first | rfl | (focus (simp only [hb, hln, hne, hlx, hx, Bool.and_false, Bool.false_and, Bool.not_true, Bool.not_false, decide_true, decide_false, Bool.or_true, Bool.true_or, not_true_eq_false, not_false_eq_true, Bool.and_true, Bool.true_and]; done))); rfl))); done)))
     | (apply V.regd; (focus ((repeat (first
     | exact RO.nil
     | (apply RO.op; rfl; (simp only [hb, hln, hne, hlx, hx, go_sem, get_nth, fieldAddrA, Nat.reduceDiv, Nat.reduceMod, Nat.reduceAdd, Nat.reduceSub, Nat.reduceEqDiff, Nat.reduceLeDiff, Nat.reduceLT, Nat.reduceMul, reduceIte, Nat.reducePow, Int.reduceEq, List.toList_toArray]; exact zL); rfl)
     | (apply RO.opg; exact zW; (intro h; (try simp only [Bool.and_eq_true, Bool.not_eq_true', Bool.not_eq_eq_eq_not, Bool.not_true] at h); simp only [h, hb, hln, hne, hlx, hx, go_sem, get_nth, fieldAddrA, Nat.reduceDiv, Nat.reduceMod, Nat.reduceAdd, Nat.reduceSub, Nat.reduceEqDiff, Nat.reduceLeDiff, Nat.reduceLT, Nat.reduceMul, reduceIte, Nat.reducePow, Int.reduceEq, List.toList_toArray]; exact zL); rfl)
     | (apply RO.call; exact want0 rfl; (simp only [hb, hln, hne, hlx, hx, go_sem, get_nth, fieldAddrA, Nat.reduceDiv, Nat.reduceMod, Nat.reduceAdd, Nat.reduceSub, Nat.reduceEqDiff, Nat.reduceLeDiff, Nat.reduceLT, Nat.reduceMul, reduceIte, Nat.reducePow, Int.reduceEq, List.toList_toArray]; rfl); fail; rfl)
     | (apply RO.callg; exact zW; (intro h; (try simp only [Bool.and_eq_true, Bool.not_eq_true', Bool.not_eq_eq_eq_not, Bool.not_true] at h); simp only [h, hb, hln, hne, hlx, hx, go_sem, get_nth, fieldAddrA, Nat.reduceDiv, Nat.reduceMod, Nat.reduceAdd, Nat.reduceSub, Nat.reduceEqDiff, Nat.reduceLeDiff, Nat.reduceLT, Nat.reduceMul, reduceIte, Nat.reducePow, Int.reduceEq, List.toList_toArray]; rfl); (intro h; (try simp only [Bool.and_eq_true, Bool.not_eq_true', Bool.not_eq_eq_eq_not, Bool.not_true] at h); fail); rfl)
     | (apply RO.no; apply wantNo; exact zW; (first | rfl | (focus (simp only [hb, hln, hne, hlx, hx, Bool.and_false, Bool.false_and, Bool.not_true, Bool.not_false, decide_true, decide_false, Bool.or_true, Bool.true_or, not_true_eq_false, not_false_eq_true, Bool.and_true, Bool.true_and]; done))); rfl))); done)); exact zK; exact zE)
     | (refine zvf (fun h => ?_) (fun h => ?_) <;> (replace h := zB h) <;> (try (exfalso; first | exact h | omega)))
     | (refine FnQ.retB (resct Tryz.results16) (by simp (disch := (first | omega | exact zX | fail)) only [cellR_op, hb, hln, hne, hlx, hx, go_sem, Nat.reduceDiv, Nat.reduceMod, Nat.reduceAdd, Nat.reduceSub, Nat.reduceEqDiff, Nat.reduceLeDiff, Nat.reduceLT, Nat.reduceMul, reduceIte, Nat.reducePow, Int.reduceEq]; rfl) ?_; (try dsimp only)))
    · rw [if_pos (by assumption)]
      exact ⟨(hP.fin2 2 (by omega) _).1, ⟨_, (hP.fin2 2 (by omega) _).2⟩, .no _ _ _ _⟩
    · rw [if_neg (by assumption), if_pos (by assumption)]
      exact ⟨(hP.fin2 3 (by omega) _).1, ⟨_, (hP.fin2 3 (by omega) _).2⟩, .no _ _ _ _⟩
    · rw [if_neg (by assumption), if_neg (by assumption), if_pos (by assumption)]
      exact ⟨(hP.fin2 1 (by omega) _).1, ⟨_, (hP.fin2 1 (by omega) _).2⟩, .no _ _ _ _⟩
    · rw [if_neg (by assumption), if_neg (by assumption), if_neg (by assumption)]
      exact ⟨(hP.fin2 0 (by omega) _).1, ⟨_, (hP.fin2 0 (by omega) _).2⟩, .no _ _ _ _⟩
  · rw [put_two]
    obtain ⟨R, G, tr, happ, hcR, g1, g2, hfin⟩ := hP.app hlo hFl (.inl rfl) r ht
    unfold rBlk at g1
    unfold zEv at g2
    have hTn := ((((hP.txt (.inl rfl)).set hb (Nat.ne_of_beq_eq_false rfl) (rBlk 0 T)).push zEv).slh)
    obtain ⟨y, tr2, ⟨A, l, hy, hA, hl⟩, htr2, hc2⟩ : ∃ y tr, (∃ A l, y = .tup [A, .v (.bool (t.all validC))] ∧ Sl 1 A (ints l) ∧ (t.all validC = true → l = csiNums t)) ∧ RoT tr ∧ CallR EZ ys lo 58 [T] ((H.set n (rBlk 0 T)).push zEv) y ((H.set n (rBlk 0 T)).push zEv) tr := by
      cases hn : [T].all nf with
      | true =>
        obtain ⟨y, h1, h2⟩ := WC.pure (E := EZ) (K := fun y => ∃ A l, y = .tup [A, .v (.bool (t.all validC))] ∧ Sl 1 A (ints l) ∧ (t.all validC = true → l = csiNums t)) rfl hn (numbers_wc 0 .empty (Nat.zero_le _) T t (nf_SlH_empty hTn (by simpa using hn)) ht hc)
        exact ⟨y, _, h1, RoT.zero, h2 _ _ _⟩
      | false =>
        obtain ⟨y, h1, h2⟩ := WC.pureH (E := EZ) (ys := ys) (lo := lo) (K := fun y => ∃ A l, y = .tup [A, .v (.bool (t.all validC))] ∧ Sl 1 A (ints l) ∧ (t.all validC = true → l = csiNums t)) rfl hn (numbers_wc _ ((H.set n (rBlk 0 T)).push zEv) (Nat.le_refl _) T t hTn ht hc)
        exact ⟨y, _, h1, RoT.all, h2⟩
    subst hy
    have hcA := cells_SlH (H := H) (.inl hA)
    refine zvin Tryz.func16 Tryz.ntmps16 ?_
    repeat' (first
     | apply V.sq
     | apply V.bl
     | apply V.sc
     | apply V.skip
     | apply V.label
     | apply V.ret
     | apply V.exit
     | apply SeqQ.normal
     | apply SeqQ.ret
     | apply SeqQ.exit
     | apply BlockQ.normal
     | apply BlockQ.ret
     | apply BlockQ.here
     | refine zbt ?_
     | apply LoopS.ret
     | apply LoopS.exit
     | apply LoopF.ret
     | apply LoopF.exit
     | (apply V.reg; (focus ((repeat (first
     | exact RO.nil
     | (apply RO.op; rfl; (simp only [hb, hln, hne, hlx, hx, happ, hcR, g1, g2, hnn, hcA, go_sem, get_nth, fieldAddrA, Nat.reduceDiv, Nat.reduceMod, Nat.reduceAdd, Nat.reduceSub, Nat.reduceEqDiff, Nat.reduceLeDiff, Nat.reduceLT, Nat.reduceMul, reduceIte, Nat.reducePow, Int.reduceEq, List.toList_toArray]; exact zL); rfl)
     | (apply RO.opg; exact zW; (intro h; (try simp only [Bool.and_eq_true, Bool.not_eq_true', Bool.not_eq_eq_eq_not, Bool.not_true] at h); simp only [h, hb, hln, hne, hlx, hx, happ, hcR, g1, g2, hnn, hcA, go_sem, get_nth, fieldAddrA, Nat.reduceDiv, Nat.reduceMod, Nat.reduceAdd, Nat.reduceSub, Nat.reduceEqDiff, Nat.reduceLeDiff, Nat.reduceLT, Nat.reduceMul, reduceIte, Nat.reducePow, Int.reduceEq, List.toList_toArray]; exact zL); rfl)
     | (apply RO.call; exact want0 rfl; (simp only [hb, hln, hne, hlx, hx, happ, hcR, g1, g2, hnn, hcA, go_sem, get_nth, fieldAddrA, Nat.reduceDiv, Nat.reduceMod, Nat.reduceAdd, Nat.reduceSub, Nat.reduceEqDiff, Nat.reduceLeDiff, Nat.reduceLT, Nat.reduceMul, reduceIte, Nat.reducePow, Int.reduceEq, List.toList_toArray]; rfl); (first | (apply hc2 <;> (exact zD))); rfl)
     | (apply RO.callg; exact zW; (intro h; (try simp only [Bool.and_eq_true, Bool.not_eq_true', Bool.not_eq_eq_eq_not, Bool.not_true] at h); simp only [h, hb, hln, hne, hlx, hx, happ, hcR, g1, g2, hnn, hcA, go_sem, get_nth, fieldAddrA, Nat.reduceDiv, Nat.reduceMod, Nat.reduceAdd, Nat.reduceSub, Nat.reduceEqDiff, Nat.reduceLeDiff, Nat.reduceLT, Nat.reduceMul, reduceIte, Nat.reducePow, Int.reduceEq, List.toList_toArray]; rfl); (intro h; (try simp only [Bool.and_eq_true, Bool.not_eq_true', Bool.not_eq_eq_eq_not, Bool.not_true] at h); (first | (apply hc2 <;> (exact zD)))); rfl)
     | (apply RO.no; apply wantNo; exact zW; (first | rfl | (focus (simp only [hb, hln, hne, hlx, hx, happ, hcR, g1, g2, hnn, hcA, Bool.and_false, Bool.false_and, Bool.not_true, Bool.not_false, decide_true, decide_false, Bool.or_true, Bool.true_or, not_true_eq_false, not_false_eq_true, Bool.and_true, Bool.true_and]; done))); rfl))); done)))
     | (apply V.regd; (focus ((repeat (first
     | exact RO.nil
     | (apply RO.op; rfl; (simp only [hb, hln, hne, hlx, hx, happ, hcR, g1, g2, hnn, hcA, go_sem, get_nth, fieldAddrA, Nat.reduceDiv, Nat.reduceMod, Nat.reduceAdd, Nat.reduceSub, Nat.reduceEqDiff, Nat.reduceLeDiff, Nat.reduceLT, Nat.reduceMul, reduceIte, Nat.reducePow, Int.reduceEq, List.toList_toArray]; exact zL); rfl)
     | (apply RO.opg; exact zW; (intro h; (try simp only [Bool.and_eq_true, Bool.not_eq_true', Bool.not_eq_eq_eq_not, Bool.not_true] at h); simp only [h, hb, hln, hne, hlx, hx, happ, hcR, g1, g2, hnn, hcA, go_sem, get_nth, fieldAddrA, Nat.reduceDiv, Nat.reduceMod, Nat.reduceAdd, Nat.reduceSub, Nat.reduceEqDiff, Nat.reduceLeDiff, Nat.reduceLT, Nat.reduceMul, reduceIte, Nat.reducePow, Int.reduceEq, List.toList_toArray]; exact zL); rfl)
     | (apply RO.call; exact want0 rfl; (simp only [hb, hln, hne, hlx, hx, happ, hcR, g1, g2, hnn, hcA, go_sem, get_nth, fieldAddrA, Nat.reduceDiv, Nat.reduceMod, Nat.reduceAdd, Nat.reduceSub, Nat.reduceEqDiff, Nat.reduceLeDiff, Nat.reduceLT, Nat.reduceMul, reduceIte, Nat.reducePow, Int.reduceEq, List.toList_toArray]; rfl); (first | (apply hc2 <;> (exact zD))); rfl)
     | (apply RO.callg; exact zW; (intro h; (try simp only [Bool.and_eq_true, Bool.not_eq_true', Bool.not_eq_eq_eq_not, Bool.not_true] at h); simp only [h, hb, hln, hne, hlx, hx, happ, hcR, g1, g2, hnn, hcA, go_sem, get_nth, fieldAddrA, Nat.reduceDiv, Nat.reduceMod, Nat.reduceAdd, Nat.reduceSub, Nat.reduceEqDiff, Nat.reduceLeDiff, Nat.reduceLT, Nat.reduceMul, reduceIte, Nat.reducePow, Int.reduceEq, List.toList_toArray]; rfl); (intro h; (try simp only [Bool.and_eq_true, Bool.not_eq_true', Bool.not_eq_eq_eq_not, Bool.not_true] at h); (first | (apply hc2 <;> (exact zD)))); rfl)
     | (apply RO.no; apply wantNo; exact zW; (first | rfl | (focus (simp only [hb, hln, hne, hlx, hx, happ, hcR, g1, g2, hnn, hcA, Bool.and_false, Bool.false_and, Bool.not_true, Bool.not_false, decide_true, decide_false, Bool.or_true, Bool.true_or, not_true_eq_false, not_false_eq_true, Bool.and_true, Bool.true_and]; done))); rfl))); done)); exact zK; exact zE)
     | (refine zvf (fun h => ?_) (fun h => ?_) <;> (replace h := zB h) <;> (try (exfalso; first | exact h | omega)))
     | (refine FnQ.retB (resct Tryz.results16) (by simp (disch := (first | omega | exact zX | fail)) only [cellR_op, hb, hln, hne, hlx, hx, happ, hcR, g1, g2, hnn, hcA, go_sem, Nat.reduceDiv, Nat.reduceMod, Nat.reduceAdd, Nat.reduceSub, Nat.reduceEqDiff, Nat.reduceLeDiff, Nat.reduceLT, Nat.reduceMul, reduceIte, Nat.reducePow, Int.reduceEq]; rfl) ?_; (try dsimp only)))
    · rw [if_pos (by assumption)]
      exact ⟨(hP.fin1 1 (t' := t) (.inr (.inl rfl)) _).1, ⟨_, (hP.fin1 1 (.inr (.inl rfl)) _).2⟩, .no _ _ _ _⟩
    · rw [if_neg (by assumption), if_pos (by assumption)]
      exact ⟨(hP.fin1 0 (t' := t) (.inl rfl) _).1, ⟨_, (hP.fin1 0 (.inl rfl) _).2⟩, .no _ _ _ _⟩
    · rw [if_neg (by omega), if_neg (by omega), if_pos (by omega)]
      refine ⟨(hP.fin1 0 (t' := t) (.inl rfl) _).1, ⟨_, (hP.fin1 0 (.inl rfl) _).2⟩, 3, r, A, emptyB, ?_, fun ev hev => ?_⟩
      · show AV.tup [_, _] = AV.tup [_, .v (.bool (csiEv t r).isSome)]
        have : (csiEv t r).isSome = t.all validC := by unfold csiEv; cases t.all validC <;> rfl
        rw [this]; rfl
      · simp only [csiEv] at hev
        split at hev
        · cases hev
          exact ⟨rfl, rfl, rfl, by have := hl (by assumption); rw [this] at hA; exact hA⟩
        · cases hev
    · rw [if_neg (by omega), if_neg (by omega), if_neg (by omega)]
      exact ⟨(hfin _).1, ⟨_, (hfin _).2⟩, .no _ _ _ _⟩
  · rw [put_three]
    obtain ⟨R, G, tr, happ, hcR, g1, g2, hfin⟩ := hP.app hlo hFl (.inr rfl) r ht
    unfold rBlk at g1
    unfold zEv at g2
    obtain ⟨y, H1, ⟨hTu, hR1, k, r', A, s, rfl, hev⟩, hc2⟩ := WC.eff (ys := ys) (lo := lo) rfl (osc_wc hlo hPp (.inl rfl) ht)
    have g3 : H1.get H.next = some zEv := by rw [hTu.keep _ (Nat.lt_succ_self _) (fun h => by have := hFl _ h; omega), get_push, if_pos rfl]
    unfold zEv at g3
    unfold evA at hc2
    refine zvin Tryz.func16 Tryz.ntmps16 ?_
    repeat' (first
     | apply V.sq
     | apply V.bl
     | apply V.sc
     | apply V.skip
     | apply V.label
     | apply V.ret
     | apply V.exit
     | apply SeqQ.normal
     | apply SeqQ.ret
     | apply SeqQ.exit
     | apply BlockQ.normal
     | apply BlockQ.ret
     | apply BlockQ.here
     | refine zbt ?_
     | apply LoopS.ret
     | apply LoopS.exit
     | apply LoopF.ret
     | apply LoopF.exit
     | (apply V.reg; (focus ((repeat (first
     | exact RO.nil
     | (apply RO.op; rfl; (simp only [hb, hln, hne, hlx, hx, happ, hcR, g1, g2, g3, hnn, go_sem, get_nth, fieldAddrA, Nat.reduceDiv, Nat.reduceMod, Nat.reduceAdd, Nat.reduceSub, Nat.reduceEqDiff, Nat.reduceLeDiff, Nat.reduceLT, Nat.reduceMul, reduceIte, Nat.reducePow, Int.reduceEq, List.toList_toArray]; exact zL); rfl)
     | (apply RO.opg; exact zW; (intro h; (try simp only [Bool.and_eq_true, Bool.not_eq_true', Bool.not_eq_eq_eq_not, Bool.not_true] at h); simp only [h, hb, hln, hne, hlx, hx, happ, hcR, g1, g2, g3, hnn, go_sem, get_nth, fieldAddrA, Nat.reduceDiv, Nat.reduceMod, Nat.reduceAdd, Nat.reduceSub, Nat.reduceEqDiff, Nat.reduceLeDiff, Nat.reduceLT, Nat.reduceMul, reduceIte, Nat.reducePow, Int.reduceEq, List.toList_toArray]; exact zL); rfl)
     | (apply RO.call; exact want0 rfl; (simp only [hb, hln, hne, hlx, hx, happ, hcR, g1, g2, g3, hnn, go_sem, get_nth, fieldAddrA, Nat.reduceDiv, Nat.reduceMod, Nat.reduceAdd, Nat.reduceSub, Nat.reduceEqDiff, Nat.reduceLeDiff, Nat.reduceLT, Nat.reduceMul, reduceIte, Nat.reducePow, Int.reduceEq, List.toList_toArray]; rfl); (first | (apply hc2 <;> (exact zD))); rfl)
     | (apply RO.callg; exact zW; (intro h; (try simp only [Bool.and_eq_true, Bool.not_eq_true', Bool.not_eq_eq_eq_not, Bool.not_true] at h); simp only [h, hb, hln, hne, hlx, hx, happ, hcR, g1, g2, g3, hnn, go_sem, get_nth, fieldAddrA, Nat.reduceDiv, Nat.reduceMod, Nat.reduceAdd, Nat.reduceSub, Nat.reduceEqDiff, Nat.reduceLeDiff, Nat.reduceLT, Nat.reduceMul, reduceIte, Nat.reducePow, Int.reduceEq, List.toList_toArray]; rfl); (intro h; (try simp only [Bool.and_eq_true, Bool.not_eq_true', Bool.not_eq_eq_eq_not, Bool.not_true] at h); (first | (apply hc2 <;> (exact zD)))); rfl)
     | (apply RO.no; apply wantNo; exact zW; (first | rfl | (focus (simp only [hb, hln, hne, hlx, hx, happ, hcR, g1, g2, g3, hnn, Bool.and_false, Bool.false_and, Bool.not_true, Bool.not_false, decide_true, decide_false, Bool.or_true, Bool.true_or, not_true_eq_false, not_false_eq_true, Bool.and_true, Bool.true_and]; done))); rfl))); done)))
     | (apply V.regd; (focus ((repeat (first
     | exact RO.nil
     | (apply RO.op; rfl; (simp only [hb, hln, hne, hlx, hx, happ, hcR, g1, g2, g3, hnn, go_sem, get_nth, fieldAddrA, Nat.reduceDiv, Nat.reduceMod, Nat.reduceAdd, Nat.reduceSub, Nat.reduceEqDiff, Nat.reduceLeDiff, Nat.reduceLT, Nat.reduceMul, reduceIte, Nat.reducePow, Int.reduceEq, List.toList_toArray]; exact zL); rfl)
     | (apply RO.opg; exact zW; (intro h; (try simp only [Bool.and_eq_true, Bool.not_eq_true', Bool.not_eq_eq_eq_not, Bool.not_true] at h); simp only [h, hb, hln, hne, hlx, hx, happ, hcR, g1, g2, g3, hnn, go_sem, get_nth, fieldAddrA, Nat.reduceDiv, Nat.reduceMod, Nat.reduceAdd, Nat.reduceSub, Nat.reduceEqDiff, Nat.reduceLeDiff, Nat.reduceLT, Nat.reduceMul, reduceIte, Nat.reducePow, Int.reduceEq, List.toList_toArray]; exact zL); rfl)
     | (apply RO.call; exact want0 rfl; (simp only [hb, hln, hne, hlx, hx, happ, hcR, g1, g2, g3, hnn, go_sem, get_nth, fieldAddrA, Nat.reduceDiv, Nat.reduceMod, Nat.reduceAdd, Nat.reduceSub, Nat.reduceEqDiff, Nat.reduceLeDiff, Nat.reduceLT, Nat.reduceMul, reduceIte, Nat.reducePow, Int.reduceEq, List.toList_toArray]; rfl); (first | (apply hc2 <;> (exact zD))); rfl)
     | (apply RO.callg; exact zW; (intro h; (try simp only [Bool.and_eq_true, Bool.not_eq_true', Bool.not_eq_eq_eq_not, Bool.not_true] at h); simp only [h, hb, hln, hne, hlx, hx, happ, hcR, g1, g2, g3, hnn, go_sem, get_nth, fieldAddrA, Nat.reduceDiv, Nat.reduceMod, Nat.reduceAdd, Nat.reduceSub, Nat.reduceEqDiff, Nat.reduceLeDiff, Nat.reduceLT, Nat.reduceMul, reduceIte, Nat.reducePow, Int.reduceEq, List.toList_toArray]; rfl); (intro h; (try simp only [Bool.and_eq_true, Bool.not_eq_true', Bool.not_eq_eq_eq_not, Bool.not_true] at h); (first | (apply hc2 <;> (exact zD)))); rfl)
     | (apply RO.no; apply wantNo; exact zW; (first | rfl | (focus (simp only [hb, hln, hne, hlx, hx, happ, hcR, g1, g2, g3, hnn, Bool.and_false, Bool.false_and, Bool.not_true, Bool.not_false, decide_true, decide_false, Bool.or_true, Bool.true_or, not_true_eq_false, not_false_eq_true, Bool.and_true, Bool.true_and]; done))); rfl))); done)); exact zK; exact zE)
     | (refine zvf (fun h => ?_) (fun h => ?_) <;> (replace h := zB h) <;> (try (exfalso; first | exact h | omega)))
     | (refine FnQ.retB (resct Tryz.results16) (by simp (disch := (first | omega | exact zX | fail)) only [cellR_op, hb, hln, hne, hlx, hx, happ, hcR, g1, g2, g3, hnn, go_sem, Nat.reduceDiv, Nat.reduceMod, Nat.reduceAdd, Nat.reduceSub, Nat.reduceEqDiff, Nat.reduceLeDiff, Nat.reduceLT, Nat.reduceMul, reduceIte, Nat.reducePow, Int.reduceEq]; rfl) ?_; (try dsimp only)))
    · rw [if_pos (by assumption)]
      refine ⟨?_, ⟨T, ?_⟩, k, r', A, s, rfl, hev⟩
      · exact ⟨Nat.le_trans (Nat.le_succ _) hTu.next, hTu.js, fun k hk hf => by rw [get_set, if_neg (by omega), hTu.keep k (Nat.lt_succ_of_lt hk) hf, get_push, if_neg (by omega)]⟩
      · refine hR1.keep (fun k hk => ?_) (Nat.le_refl _) (fun k hk hl => ?_)
        · rcases hk with hk | ⟨h1, h2⟩
          · exact .inl hk
          · exact .inr ⟨Nat.le_of_succ_le h1, h2⟩
        · rw [get_set, if_neg (by
            rintro rfl
            rcases hk with hk | ⟨h1, h2⟩
            · have := hFl _ hk; omega
            · rw [next_push] at h1; omega)]
    · rw [if_neg (by assumption), if_pos (by assumption)]
      exact ⟨(hP.fin1 4 (t' := t) (.inr (.inr ⟨rfl, rfl, rfl⟩)) _).1, ⟨_, (hP.fin1 4 (.inr (.inr ⟨rfl, rfl, rfl⟩)) _).2⟩, .no _ _ _ _⟩
    · rw [if_neg (by assumption), if_neg (by assumption)]
      exact ⟨(hfin _).1, ⟨_, (hfin _).2⟩, .no _ _ _ _⟩
  · obtain ⟨y, H1, ⟨hTu, hR1, k, r', A, s, rfl, hev⟩, hc2⟩ := WC.eff (ys := ys) (lo := lo) rfl (osc_wc hlo hPp (.inr rfl) ht)
    have g3 : H1.get H.next = some zEv := by rw [hTu.keep _ (Nat.lt_succ_self _) (fun h => by have := hFl _ h; omega), get_push, if_pos rfl]
    unfold zEv at g3
    unfold evA at hc2
    refine zvin Tryz.func16 Tryz.ntmps16 ?_
    repeat' (first
     | apply V.sq
     | apply V.bl
     | apply V.sc
     | apply V.skip
     | apply V.label
     | apply V.ret
     | apply V.exit
     | apply SeqQ.normal
     | apply SeqQ.ret
     | apply SeqQ.exit
     | apply BlockQ.normal
     | apply BlockQ.ret
     | apply BlockQ.here
     | refine zbt ?_
     | apply LoopS.ret
     | apply LoopS.exit
     | apply LoopF.ret
     | apply LoopF.exit
     | (apply V.reg; (focus ((repeat (first
     | exact RO.nil
     | (apply RO.op; rfl; (simp only [hb, hln, hne, hlx, hx, g3, hnn, go_sem, get_nth, fieldAddrA, Nat.reduceDiv, Nat.reduceMod, Nat.reduceAdd, Nat.reduceSub, Nat.reduceEqDiff, Nat.reduceLeDiff, Nat.reduceLT, Nat.reduceMul, reduceIte, Nat.reducePow, Int.reduceEq, List.toList_toArray]; exact zL); rfl)
     | (apply RO.opg; exact zW; (intro h; (try simp only [Bool.and_eq_true, Bool.not_eq_true', Bool.not_eq_eq_eq_not, Bool.not_true] at h); simp only [h, hb, hln, hne, hlx, hx, g3, hnn, go_sem, get_nth, fieldAddrA, Nat.reduceDiv, Nat.reduceMod, Nat.reduceAdd, Nat.reduceSub, Nat.reduceEqDiff, Nat.reduceLeDiff, Nat.reduceLT, Nat.reduceMul, reduceIte, Nat.reducePow, Int.reduceEq, List.toList_toArray]; exact zL); rfl)
     | (apply RO.call; exact want0 rfl; (simp only [hb, hln, hne, hlx, hx, g3, hnn, go_sem, get_nth, fieldAddrA, Nat.reduceDiv, Nat.reduceMod, Nat.reduceAdd, Nat.reduceSub, Nat.reduceEqDiff, Nat.reduceLeDiff, Nat.reduceLT, Nat.reduceMul, reduceIte, Nat.reducePow, Int.reduceEq, List.toList_toArray]; rfl); (first | (apply hc2 <;> (exact zD))); rfl)
     | (apply RO.callg; exact zW; (intro h; (try simp only [Bool.and_eq_true, Bool.not_eq_true', Bool.not_eq_eq_eq_not, Bool.not_true] at h); simp only [h, hb, hln, hne, hlx, hx, g3, hnn, go_sem, get_nth, fieldAddrA, Nat.reduceDiv, Nat.reduceMod, Nat.reduceAdd, Nat.reduceSub, Nat.reduceEqDiff, Nat.reduceLeDiff, Nat.reduceLT, Nat.reduceMul, reduceIte, Nat.reducePow, Int.reduceEq, List.toList_toArray]; rfl); (intro h; (try simp only [Bool.and_eq_true, Bool.not_eq_true', Bool.not_eq_eq_eq_not, Bool.not_true] at h); (first | (apply hc2 <;> (exact zD)))); rfl)
     | (apply RO.no; apply wantNo; exact zW; (first | rfl | (focus (simp only [hb, hln, hne, hlx, hx, g3, hnn, Bool.and_false, Bool.false_and, Bool.not_true, Bool.not_false, decide_true, decide_false, Bool.or_true, Bool.true_or, not_true_eq_false, not_false_eq_true, Bool.and_true, Bool.true_and]; done))); rfl))); done)))
     | (apply V.regd; (focus ((repeat (first
     | exact RO.nil
     | (apply RO.op; rfl; (simp only [hb, hln, hne, hlx, hx, g3, hnn, go_sem, get_nth, fieldAddrA, Nat.reduceDiv, Nat.reduceMod, Nat.reduceAdd, Nat.reduceSub, Nat.reduceEqDiff, Nat.reduceLeDiff, Nat.reduceLT, Nat.reduceMul, reduceIte, Nat.reducePow, Int.reduceEq, List.toList_toArray]; exact zL); rfl)
     | (apply RO.opg; exact zW; (intro h; (try simp only [Bool.and_eq_true, Bool.not_eq_true', Bool.not_eq_eq_eq_not, Bool.not_true] at h); simp only [h, hb, hln, hne, hlx, hx, g3, hnn, go_sem, get_nth, fieldAddrA, Nat.reduceDiv, Nat.reduceMod, Nat.reduceAdd, Nat.reduceSub, Nat.reduceEqDiff, Nat.reduceLeDiff, Nat.reduceLT, Nat.reduceMul, reduceIte, Nat.reducePow, Int.reduceEq, List.toList_toArray]; exact zL); rfl)
     | (apply RO.call; exact want0 rfl; (simp only [hb, hln, hne, hlx, hx, g3, hnn, go_sem, get_nth, fieldAddrA, Nat.reduceDiv, Nat.reduceMod, Nat.reduceAdd, Nat.reduceSub, Nat.reduceEqDiff, Nat.reduceLeDiff, Nat.reduceLT, Nat.reduceMul, reduceIte, Nat.reducePow, Int.reduceEq, List.toList_toArray]; rfl); (first | (apply hc2 <;> (exact zD))); rfl)
     | (apply RO.callg; exact zW; (intro h; (try simp only [Bool.and_eq_true, Bool.not_eq_true', Bool.not_eq_eq_eq_not, Bool.not_true] at h); simp only [h, hb, hln, hne, hlx, hx, g3, hnn, go_sem, get_nth, fieldAddrA, Nat.reduceDiv, Nat.reduceMod, Nat.reduceAdd, Nat.reduceSub, Nat.reduceEqDiff, Nat.reduceLeDiff, Nat.reduceLT, Nat.reduceMul, reduceIte, Nat.reducePow, Int.reduceEq, List.toList_toArray]; rfl); (intro h; (try simp only [Bool.and_eq_true, Bool.not_eq_true', Bool.not_eq_eq_eq_not, Bool.not_true] at h); (first | (apply hc2 <;> (exact zD)))); rfl)
     | (apply RO.no; apply wantNo; exact zW; (first | rfl | (focus (simp only [hb, hln, hne, hlx, hx, g3, hnn, Bool.and_false, Bool.false_and, Bool.not_true, Bool.not_false, decide_true, decide_false, Bool.or_true, Bool.true_or, not_true_eq_false, not_false_eq_true, Bool.and_true, Bool.true_and]; done))); rfl))); done)); exact zK; exact zE)
     | (refine zvf (fun h => ?_) (fun h => ?_) <;> (replace h := zB h) <;> (try (exfalso; first | exact h | omega)))
     | (refine FnQ.retB (resct Tryz.results16) (by simp (disch := (first | omega | exact zX | fail)) only [cellR_op, hb, hln, hne, hlx, hx, g3, hnn, go_sem, Nat.reduceDiv, Nat.reduceMod, Nat.reduceAdd, Nat.reduceSub, Nat.reduceEqDiff, Nat.reduceLeDiff, Nat.reduceLT, Nat.reduceMul, reduceIte, Nat.reducePow, Int.reduceEq]; rfl) ?_; (try dsimp only)))
    · subst h
      have e : put 4 t 92 = (0, t, oscEv t) := rfl
      rw [e]
      refine ⟨?_, ⟨T, ?_⟩, k, r', A, s, rfl, hev⟩
      · exact ⟨Nat.le_trans (Nat.le_succ _) hTu.next, hTu.js, fun k hk hf => by rw [get_set, if_neg (by omega), hTu.keep k (Nat.lt_succ_of_lt hk) hf, get_push, if_neg (by omega)]⟩
      · refine hR1.keep (fun k hk => ?_) (Nat.le_refl _) (fun k hk hl => ?_)
        · rcases hk with hk | ⟨h1, h2⟩
          · exact .inl hk
          · exact .inr ⟨Nat.le_of_succ_le h1, h2⟩
        · rw [get_set, if_neg (by
            rintro rfl
            rcases hk with hk | ⟨h1, h2⟩
            · have := hFl _ hk; omega
            · rw [next_push] at h1; omega)]
    · rw [put_one 4 (.inr rfl) t r (fun _ => by assumption), if_pos (by assumption)]
      exact ⟨(hP.fin2 2 (by omega) _).1, ⟨_, (hP.fin2 2 (by omega) _).2⟩, .no _ _ _ _⟩
    · rw [put_one 4 (.inr rfl) t r (fun _ => by assumption), if_neg (by assumption), if_pos (by assumption)]
      exact ⟨(hP.fin2 3 (by omega) _).1, ⟨_, (hP.fin2 3 (by omega) _).2⟩, .no _ _ _ _⟩
    · rw [put_one 4 (.inr rfl) t r (fun _ => by assumption), if_neg (by assumption), if_neg (by assumption), if_pos (by assumption)]
      exact ⟨(hP.fin2 1 (by omega) _).1, ⟨_, (hP.fin2 1 (by omega) _).2⟩, .no _ _ _ _⟩
    · rw [put_one 4 (.inr rfl) t r (fun _ => by assumption), if_neg (by assumption), if_neg (by assumption), if_neg (by assumption)]
      exact ⟨(hP.fin2 0 (by omega) _).1, ⟨_, (hP.fin2 0 (by omega) _).2⟩, .no _ _ _ _⟩
end
end Go.Am
