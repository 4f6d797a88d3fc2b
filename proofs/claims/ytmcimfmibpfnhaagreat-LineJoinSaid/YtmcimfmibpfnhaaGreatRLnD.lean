
/- LineJoin: rows of two panes, one behind the other. -/
import Derived.Test.YtmcimfmibpfnhaaGreatRLnC
import Derived.Test.YtmcimfmibpfnhaaGreatRLinY
set_option linter.all false
set_option linter.deprecated false
namespace Go.Am
variable {oc : Orc} [OrcI oc]
open Go.Proofs
set_option maxRecDepth 8000
set_option maxHeartbeats 4000000
theorem getD_app {α : Type} (d : α) (l m : List α) (j : Nat) : (l ++ m).getD j d = if j < l.length then l.getD j d else m.getD (j - l.length) d := by
  rw [List.getD_eq_getElem?_getD, List.getElem?_append]
  split <;> rfl
theorem bOf_app (es fs : List (List AV)) (j : Nat) : bOf (es ++ fs) j = if j < es.length then bOf es j else bOf fs (j - es.length) := by
  unfold bOf
  rw [nth_getD, getD_app]
  split
  · rw [nth_getD]
  · rw [nth_getD]
theorem RsP.app {es fs : List (List AV)} {a b : List Rw} (h : RsP es a) (k : RsP fs b) : RsP (es ++ fs) (a ++ b) := by
  have hl := h.len
  have hk := k.len
  have hn : ∀ j, nth [] (es ++ fs) j = if j < es.length then nth [] es j else nth [] fs (j - es.length) := fun j => by
    rw [nth_getD, getD_app]; split <;> rw [nth_getD]
  refine ⟨by rw [List.length_append, List.length_append, hl, hk], fun j hj => ?_, fun j hj => ?_, fun j hj => ?_, fun j hj => ?_⟩ <;> rw [List.length_append] at hj <;> by_cases q : j < a.length
  · rw [hn, bOf_app, getD_app, if_pos (by omega), if_pos (by omega), if_pos q]; exact h.cell j q
  · rw [hn, bOf_app, getD_app, if_neg (by omega), if_neg (by omega), if_neg q, hl]; exact k.cell _ (by omega)
  · rw [bOf_app, getD_app, if_pos (by omega), if_pos q]; exact h.sl j q
  · rw [bOf_app, getD_app, if_neg (by omega), if_neg q, hl]; exact k.sl _ (by omega)
  · rw [getD_app, if_pos q]; exact h.lt j q
  · rw [getD_app, if_neg q]; exact k.lt _ (by omega)
  · rw [getD_app, if_pos q]; exact h.r32 j q
  · rw [getD_app, if_neg q]; exact k.r32 _ (by omega)
theorem LsP.app {es fs : List (List AV)} {a b : List (List Ce)} (h : LsP es a) (k : LsP fs b) : LsP (es ++ fs) (a ++ b) := by
  have hl := h.len
  have hk := k.len
  have hn : ∀ j, nth [] (es ++ fs) j = if j < es.length then nth [] es j else nth [] fs (j - es.length) := fun j => by
    rw [nth_getD, getD_app]; split <;> rw [nth_getD]
  refine ⟨by rw [List.length_append, List.length_append, hl, hk], fun j hj => ?_, fun j hj => ?_, fun j hj => ?_, fun j hj => ?_⟩ <;> rw [List.length_append] at hj <;> by_cases q : j < a.length
  · rw [hn, bOf_app, if_pos (by omega), if_pos (by omega)]; exact h.cell j q
  · rw [hn, bOf_app, if_neg (by omega), if_neg (by omega), hl]; exact k.cell _ (by omega)
  · rw [bOf_app, getD_app, if_pos (by omega), if_pos q]; exact h.sl j q
  · rw [bOf_app, getD_app, if_neg (by omega), if_neg q, hl]; exact k.sl _ (by omega)
  · rw [getD_app, if_pos q]; exact h.lt j q
  · rw [getD_app, if_neg q]; exact k.lt _ (by omega)
  · rw [getD_app, if_pos q]; exact h.r32 j q
  · rw [getD_app, if_neg q]; exact k.r32 _ (by omega)
theorem RsP.setW {es : List (List AV)} {a : List Rw} (h : RsP es a) (i : Nat) (hi : i < a.length) (w : Bool) : RsP (es.set i [bOf es i, .v (.bool w)]) (a.set i ((a.getD i noRw).1, w)) := by
  have hl := h.len
  have hn : ∀ j, j < a.length → nth [] (es.set i [bOf es i, .v (.bool w)]) j = if j = i then [bOf es i, .v (.bool w)] else nth [] es j := fun j hj => by
    rw [nth_getD, List.getD_eq_getElem?_getD, List.getElem?_set]
    by_cases q : i = j
    · rw [if_pos q, if_pos (by omega), if_pos q.symm]; rfl
    · rw [if_neg q, if_neg (fun z => q z.symm), nth_getD]; rfl
  have hg : ∀ j, j < a.length → (a.set i ((a.getD i noRw).1, w)).getD j noRw = if j = i then ((a.getD i noRw).1, w) else a.getD j noRw := fun j hj => by
    rw [List.getD_eq_getElem?_getD, List.getElem?_set]
    by_cases q : i = j
    · rw [if_pos q, if_pos (by omega), if_pos q.symm]; rfl
    · rw [if_neg q, if_neg (fun z => q z.symm)]; rfl
  have hbf : ∀ j, j < a.length → bOf (es.set i [bOf es i, .v (.bool w)]) j = bOf es j := fun j hj => by
    rw [bOf, hn j hj]
    by_cases q : j = i
    · subst q; rw [if_pos rfl]; rfl
    · rw [if_neg q]; rfl
  refine ⟨by rw [List.length_set, List.length_set, hl], fun j hj => ?_, fun j hj => ?_, fun j hj => ?_, fun j hj => ?_⟩ <;> rw [List.length_set] at hj
  · rw [hbf j hj, hn j hj, hg j hj]
    by_cases q : j = i
    · subst q; rw [if_pos rfl, if_pos rfl]
    · rw [if_neg q, if_neg q]; exact h.cell j hj
  · rw [hbf j hj, hg j hj]
    by_cases q : j = i
    · subst q; rw [if_pos rfl]; exact h.sl j hj
    · rw [if_neg q]; exact h.sl j hj
  · rw [hg j hj]
    by_cases q : j = i
    · subst q; rw [if_pos rfl]; exact h.lt j hj
    · rw [if_neg q]; exact h.lt j hj
  · rw [hg j hj]
    by_cases q : j = i
    · subst q; rw [if_pos rfl]; exact h.r32 j hj
    · rw [if_neg q]; exact h.r32 j hj
section
theorem app2 (H : AHeap) {X Y : AV} {es fs : List (List AV)} (hX : SlH H 2 X es) (hY : SlH H 2 Y fs) (hl : es.length ≤ 100) (hl2 : fs.length ≤ 100) : ∃ x2 H3 tr3 x3 H4 tr4, primL 0 H (appendA (ELo oc) 22 (.v (.slice none 0 0)) X) = some (x2, H3, tr3) ∧ primL 0 H3 (appendA (ELo oc) 22 x2 Y) = some (x3, H4, tr4) ∧ SlH H4 2 x3 (es ++ fs) ∧ Ext H H4 := by
  obtain ⟨x2, H3, tr3, hap1, ho3, hnx3, hfr3, -, hnm3⟩ := (OwS.nil H H.next 48 2).addN (ELo oc) 0 app_row' hX (fun k hk _ => by obtain ⟨_, _, _, e⟩ := hk; cases e) (Nat.zero_le _) (Nat.le_refl _) (by simp only [List.length_nil]; unfold roomMax; omega)
  have hx3 : Ext H H3 := ⟨hnx3, fun k hk => hfr3 k hk (fun z => by obtain ⟨_, _, _, e⟩ := z; cases e)⟩
  rw [List.nil_append] at ho3
  obtain ⟨x3, H4, tr4, hap2, ho4, hnx4, hfr4, -, hnm4⟩ := ho3.addN (ELo oc) 0 app_row' (hY.ext hx3) (fun k hk hk2 => by have := ho3.nm hk; have := hY.lt hk2; omega) (Nat.zero_le _) hnx3 (by unfold roomMax; omega)
  exact ⟨x2, H3, tr3, x3, H4, tr4, hap1, hap2, ho4.slh, ⟨by omega, fun k hk => by rw [hfr4 k (by omega) (fun z => by have := ho3.nm z; omega), hx3.get k hk]⟩⟩
theorem set_getLast {α : Type} {l : List α} (x : α) (h : l.set (l.length - 1) x ≠ []) : (l.set (l.length - 1) x).getLast h = x := by
  rw [List.getLast_eq_getElem, List.getElem_set]
  rw [if_pos (by rw [List.length_set])]
variable {A B : AV} {es fs : List (List AV)} {a b : List Rw}
theorem LineJoin_law (hbe : ∀ ys lo H, CallR (ELo oc) ys lo 22 [] H (.v (.bool true)) H ⟨0, 0, 0⟩) (hA : Sl 2 A es) (hl : es.length < 2 ^ 63) (hE : RsB es a) (hB : Sl 2 B fs) (hl2 : fs.length < 2 ^ 63) (hF : RsB fs b) : WC (ELo oc) [] 0 13 [A, B] .empty fun x _ => x = .v (.bool true) := by
  generalize hEm : AHeap.empty = H0
  have hRa := fun ys G => Rows_run (ys := ys) (lo := 0) (H := G) (.inl hA) hE hl
  have hRb := fun ys G => Rows_run (ys := ys) (lo := 0) (H := G) (.inl hB) hF hl2
  refine zvin Tryz.func13 Tryz.ntmps13 ?_
  repeat' (first
   | refine zka ?_
   | refine zkb ?_
   | (apply RKp.op; ((try simp (disch := (first | omega | exact zX | exact zO | fail)) only [go_sem, Nat.reduceDiv, Nat.reduceMod, Nat.reduceAdd, Nat.reduceSub, Nat.reduceEqDiff, Nat.reduceLeDiff, Nat.reduceLT, Nat.reduceMul, reduceIte, Nat.reducePow, Int.reduceEq]); exact zL); rfl)
   | (apply RKp.call; (apply hbe <;> (exact zD)); rfl)
   | (apply RKp.callR; (apply hbe <;> (exact zD)); rfl; intro tr htr)
   | (apply RKp.callO; (apply hbe <;> (exact zD)); rfl; intro tr)
   | (apply RKp.callRE; (apply hbe <;> (exact zD)); (intro x; rfl))
   | (apply RKp.callE; (apply hbe <;> (exact zD)); (intro x; rfl))
   | (apply RKp.callNE; ((first | apply hRa | apply hRb) <;> (exact zD)); (intro x; rfl))
   | refine zkc ?_
   | apply RKg.tt
   | apply RKg.ff
   | refine zkd ?_
   | refine zke ?_
   | refine zkf ?_
   | (refine RKg.split (fun h => ?_) (fun h => ?_) <;> (try rw [h]) <;> (replace h := zB h) <;> (try (exfalso; first | exact h | omega)))
   | apply RK.nil
   | apply V.sq
   | apply V.bl
   | apply V.sc
   | apply V.skip
   | apply V.label
   | apply V.ret
   | apply V.exit
   | apply SeqQ.normal
   | apply SeqQ.ret
   | apply SeqQ.exit
   | apply BlockQ.normal
   | apply BlockQ.ret
   | apply BlockQ.here
   | refine zbt ?_
   | apply LoopS.ret
   | apply LoopS.exit
   | apply LoopF.ret
   | apply LoopF.exit
   | apply V.regK
   | refine zvd ?_
   | refine zve ?_
   | (refine zvf (fun h => ?_) (fun h => ?_) <;> (replace h := zB h) <;> (try (exfalso; first | exact h | omega)))
    | (refine zfc Tryz.results13 ?_; (try dsimp only)))
  rintro x H1 tr htr ⟨es1, ho1, hr1, hx1, -⟩
  have hn1 := hx1.next
  repeat' (first
   | refine zka ?_
   | refine zkb ?_
   | (apply RKp.op; ((try simp (disch := (first | omega | exact zX | exact zO | fail)) only [go_sem, Nat.reduceDiv, Nat.reduceMod, Nat.reduceAdd, Nat.reduceSub, Nat.reduceEqDiff, Nat.reduceLeDiff, Nat.reduceLT, Nat.reduceMul, reduceIte, Nat.reducePow, Int.reduceEq]); exact zL); rfl)
   | (apply RKp.callNE; (apply hRb <;> (exact zD)); (intro x; rfl))
   | refine zkc ?_
   | apply RKg.tt
   | apply RKg.ff
   | refine zkd ?_
   | refine zke ?_
   | refine zkf ?_
   | (refine RKg.split (fun h => ?_) (fun h => ?_) <;> (try rw [h]) <;> (replace h := zB h) <;> (try (exfalso; first | exact h | omega)))
   | apply RK.nil
   | apply V.sq
   | apply V.bl
   | apply V.sc
   | apply V.skip
   | apply V.label
   | apply V.ret
   | apply V.exit
   | apply SeqQ.normal
   | apply SeqQ.ret
   | apply SeqQ.exit
   | apply BlockQ.normal
   | apply BlockQ.ret
   | apply BlockQ.here
   | refine zbt ?_
   | apply LoopS.ret
   | apply LoopS.exit
   | apply LoopF.ret
   | apply LoopF.exit
   | apply V.regK
   | refine zvd ?_
   | refine zve ?_
   | (refine zvf (fun h => ?_) (fun h => ?_) <;> (replace h := zB h) <;> (try (exfalso; first | exact h | omega)))
    | (refine zfc Tryz.results13 ?_; (try dsimp only)))
  rintro y H2 tr2 htr2 ⟨es2, ho2, hr2, hx2, -⟩
  have hn2 := hx2.next
  have hla := rowsT_len a
  have hlb := rowsT_len b
  generalize rowsT a = ra at *
  generalize rowsT b = rb at *
  have hX : SlH H2 2 x es1 := ho1.slh.ext hx2
  have hY : SlH H2 2 y es2 := ho2.slh
  have hjb : (joinL rb).length ≤ rb.length := joinG_le rb []
  have hle := hr1.len
  have hle2 := hr2.len
  by_cases hz : ra.length = 0
  · have hcut : joinL (ra ++ rb) = joinL ra ++ joinL rb := by
      rw [List.eq_nil_of_length_eq_zero hz]; rfl
    have hja : (joinL ra).length ≤ ra.length := joinG_le ra []
    have hjab : (joinL (ra ++ rb)).length ≤ (ra ++ rb).length := joinG_le (ra ++ rb) []
    rw [List.length_append] at hjab
    obtain ⟨x2, H3, tr3, x3, H4, tr4, hap1, hap2, hap, hx4⟩ := app2 H2 hX hY (by omega) (by omega)
    have hJ := fun ys G (q : Ext H4 G) => Join_run (ys := ys) (lo := 0) (hap.ext q) (hr1.app hr2) (by rw [List.length_append]; omega)
    have hJx := fun ys G (q : Ext H4 G) => Join_run (ys := ys) (lo := 0) ((hX.ext hx4).ext q) hr1 (by omega)
    have hJy := fun ys G (q : Ext H4 G) => Join_run (ys := ys) (lo := 0) ((hY.ext hx4).ext q) hr2 (by omega)
    repeat' (first
     | refine zka ?_
     | refine zkb ?_
     | (apply RKp.op; ((try simp (disch := (first | omega | exact zX | exact zO | fail)) only [lenR 0 hX hr1, hap1, hap2, go_sem, Nat.reduceDiv, Nat.reduceMod, Nat.reduceAdd, Nat.reduceSub, Nat.reduceEqDiff, Nat.reduceLeDiff, Nat.reduceLT, Nat.reduceMul, reduceIte, Nat.reducePow, Int.reduceEq]); exact zL); rfl)
     | (apply RKp.callNE; (apply hJ <;> (exact zD)); (intro x; rfl))
     | refine zkc ?_
     | apply RKg.tt
     | apply RKg.ff
     | refine zkd ?_
     | refine zke ?_
     | refine zkf ?_
     | (refine RKg.split (fun h => ?_) (fun h => ?_) <;> (try rw [h]) <;> (replace h := zB h) <;> (try (exfalso; first | exact h | omega)))
     | apply RK.nil
     | apply V.sq
     | apply V.bl
     | apply V.sc
     | apply V.skip
     | apply V.label
     | apply V.ret
     | apply V.exit
     | apply SeqQ.normal
     | apply SeqQ.ret
     | apply SeqQ.exit
     | apply BlockQ.normal
     | apply BlockQ.ret
     | apply BlockQ.here
     | refine zbt ?_
     | apply LoopS.ret
     | apply LoopS.exit
     | apply LoopF.ret
     | apply LoopF.exit
     | apply V.regK
     | refine zvd ?_
     | refine zve ?_
     | (refine zvf (fun h => ?_) (fun h => ?_) <;> (replace h := zB h) <;> (try (exfalso; first | exact h | omega)))
      | (refine zfc Tryz.results13 ?_; (try dsimp only)))
    rintro u H5 tr5 htr5 ⟨ls5, ho5, hl5, hx5, -⟩
    repeat' (first
     | refine zka ?_
     | refine zkb ?_
     | (apply RKp.op; ((try simp (disch := (first | omega | exact zX | exact zO | fail)) only [go_sem, Nat.reduceDiv, Nat.reduceMod, Nat.reduceAdd, Nat.reduceSub, Nat.reduceEqDiff, Nat.reduceLeDiff, Nat.reduceLT, Nat.reduceMul, reduceIte, Nat.reducePow, Int.reduceEq]); exact zL); rfl)
     | (apply RKp.callNE; (apply hJx <;> (exact zD)); (intro x; rfl))
     | refine zkc ?_
     | apply RKg.tt
     | apply RKg.ff
     | refine zkd ?_
     | refine zke ?_
     | refine zkf ?_
     | (refine RKg.split (fun h => ?_) (fun h => ?_) <;> (try rw [h]) <;> (replace h := zB h) <;> (try (exfalso; first | exact h | omega)))
     | apply RK.nil
     | apply V.sq
     | apply V.bl
     | apply V.sc
     | apply V.skip
     | apply V.label
     | apply V.ret
     | apply V.exit
     | apply SeqQ.normal
     | apply SeqQ.ret
     | apply SeqQ.exit
     | apply BlockQ.normal
     | apply BlockQ.ret
     | apply BlockQ.here
     | refine zbt ?_
     | apply LoopS.ret
     | apply LoopS.exit
     | apply LoopF.ret
     | apply LoopF.exit
     | apply V.regK
     | refine zvd ?_
     | refine zve ?_
     | (refine zvf (fun h => ?_) (fun h => ?_) <;> (replace h := zB h) <;> (try (exfalso; first | exact h | omega)))
      | (refine zfc Tryz.results13 ?_; (try dsimp only)))
    rintro v H6 tr6 htr6 ⟨ls6, ho6, hl6, hx6, -⟩
    have hx56 := hx5.trans hx6
    repeat' (first
     | refine zka ?_
     | refine zkb ?_
     | (apply RKp.op; ((try simp (disch := (first | omega | exact zX | exact zO | fail)) only [go_sem, Nat.reduceDiv, Nat.reduceMod, Nat.reduceAdd, Nat.reduceSub, Nat.reduceEqDiff, Nat.reduceLeDiff, Nat.reduceLT, Nat.reduceMul, reduceIte, Nat.reducePow, Int.reduceEq]); exact zL); rfl)
     | (apply RKp.callNE; (apply hJy <;> (exact zD)); (intro x; rfl))
     | refine zkc ?_
     | apply RKg.tt
     | apply RKg.ff
     | refine zkd ?_
     | refine zke ?_
     | refine zkf ?_
     | (refine RKg.split (fun h => ?_) (fun h => ?_) <;> (try rw [h]) <;> (replace h := zB h) <;> (try (exfalso; first | exact h | omega)))
     | apply RK.nil
     | apply V.sq
     | apply V.bl
     | apply V.sc
     | apply V.skip
     | apply V.label
     | apply V.ret
     | apply V.exit
     | apply SeqQ.normal
     | apply SeqQ.ret
     | apply SeqQ.exit
     | apply BlockQ.normal
     | apply BlockQ.ret
     | apply BlockQ.here
     | refine zbt ?_
     | apply LoopS.ret
     | apply LoopS.exit
     | apply LoopF.ret
     | apply LoopF.exit
     | apply V.regK
     | refine zvd ?_
     | refine zve ?_
     | (refine zvf (fun h => ?_) (fun h => ?_) <;> (replace h := zB h) <;> (try (exfalso; first | exact h | omega)))
      | (refine zfc Tryz.results13 ?_; (try dsimp only)))
    rintro t H7 tr7 htr7 ⟨ls7, ho7, hl7, hx7, -⟩
    have n5 := hx5.next
    have n6 := hx6.next
    have n7 := hx7.next
    have ho6' : OwS H7 H5.next 41 1 v ls6 := ho6.on n7 fun k _ hk => hx7.get k hk
    obtain ⟨z, H8, tr8, hap8, ho8, hnx8, hfr8, -, hnm8⟩ := ho6'.addN (ELo oc) 0 app_line ho7.slh (fun k hk hk2 => by
      have q1 := ho7.nm hk2
      have q2 := ho6.nm hk
      omega) (Nat.zero_le _) (by omega) (by rw [hl6.len, hl7.len]; unfold roomMax; omega)
    have hx8 : Ext H5 H8 := ⟨by omega, fun k hk => by rw [hfr8 k (by omega) (fun z => by have := ho6.nm z; omega), hx7.get k (by omega), hx6.get k hk]⟩
    have hEq := fun ys => eq_run (ys := ys) (lo := 0) (ho5.slh.ext hx8) hl5 ho8.slh (hl6.app hl7) (by omega) (by rw [List.length_append]; omega)
    simp only [decide_eq_true hcut] at hEq
    repeat' (first
     | refine zka ?_
     | refine zkb ?_
     | (apply RKp.op; ((try simp (disch := (first | omega | exact zX | exact zO | fail)) only [hap8, go_sem, Nat.reduceDiv, Nat.reduceMod, Nat.reduceAdd, Nat.reduceSub, Nat.reduceEqDiff, Nat.reduceLeDiff, Nat.reduceLT, Nat.reduceMul, reduceIte, Nat.reducePow, Int.reduceEq]); exact zL); rfl)
     | (apply RKp.callR; (apply hEq <;> (exact zD)); rfl; intro tr htr)
     | refine zkc ?_
     | apply RKg.tt
     | apply RKg.ff
     | refine zkd ?_
     | refine zke ?_
     | refine zkf ?_
     | (refine RKg.split (fun h => ?_) (fun h => ?_) <;> (try rw [h]) <;> (replace h := zB h) <;> (try (exfalso; first | exact h | omega)))
     | apply RK.nil
     | apply V.sq
     | apply V.bl
     | apply V.sc
     | apply V.skip
     | apply V.label
     | apply V.ret
     | apply V.exit
     | apply SeqQ.normal
     | apply SeqQ.ret
     | apply SeqQ.exit
     | apply BlockQ.normal
     | apply BlockQ.ret
     | apply BlockQ.here
     | refine zbt ?_
     | apply LoopS.ret
     | apply LoopS.exit
     | apply LoopF.ret
     | apply LoopF.exit
     | apply V.regK
     | refine zvd ?_
     | refine zve ?_
     | (refine zvf (fun h => ?_) (fun h => ?_) <;> (replace h := zB h) <;> (try (exfalso; first | exact h | omega)))
      | (refine zfc Tryz.results13 ?_; (try dsimp only)))
  · have hne : ra ≠ [] := fun z => hz (by rw [z]; rfl)
    rcases ho1 with ⟨z, _⟩ | ⟨n, e, rfl, q1, q2, q3⟩
    · exact absurd (by rw [← hle, z]; rfl) hz
    · have gn : H2.get n = some ⟨48, 2, e, es1, none⟩ := by rw [hx2.get n q2]; exact q3
      have hnn : n < H2.next := by omega
      have f1 : ((es1.length : Int) - 1).toNat = ra.length - 1 := by omega
      have f2 : List.take es1.length es1 = es1 := List.take_length
      have f3 := hr1.cell (ra.length - 1) (by omega)
      have hRow := fun ys G => Row_R (ys := ys) (lo := 0) (H := G) (wr := (ra.getD (ra.length - 1) noRw).2) (.inl (hr1.sl (ra.length - 1) (by omega))) (by have := hr1.lt (ra.length - 1) (by omega); omega) (hr1.r32 (ra.length - 1) (by omega))
      have hlast : ∀ h : ra ≠ [], ra.getLast h = ra.getD (ra.length - 1) noRw := fun h => by
        rw [List.getLast_eq_getElem, List.getD_eq_getElem?_getD, List.getElem?_eq_getElem (by omega)]; rfl
      by_cases hw : (ra.getD (ra.length - 1) noRw).2 = true ∧ rowG (ra.getD (ra.length - 1) noRw).1
      · obtain ⟨hw1, hw2⟩ := hw
        simp only [decide_eq_true hw2, hw1] at hRow
        have hr' := hr1.setW (ra.length - 1) (by omega) false
        have hcut : joinL (ra.set (ra.length - 1) ((ra.getD (ra.length - 1) noRw).1, false) ++ rb) = joinL (ra.set (ra.length - 1) ((ra.getD (ra.length - 1) noRw).1, false)) ++ joinL rb := by
          have hne2 : ra.set (ra.length - 1) ((ra.getD (ra.length - 1) noRw).1, false) ≠ [] := fun z => hz (by have := congrArg List.length z; rw [List.length_set] at this; exact this)
          refine joinG_app hne2 ?_
          rw [set_getLast]
          unfold sndR; rw [if_pos hw2]
        have hls : (ra.set (ra.length - 1) ((ra.getD (ra.length - 1) noRw).1, false)).length = ra.length := List.length_set
        have hja : (joinL (ra.set (ra.length - 1) ((ra.getD (ra.length - 1) noRw).1, false))).length ≤ (ra.set (ra.length - 1) ((ra.getD (ra.length - 1) noRw).1, false)).length := joinG_le _ []
        have hjab : (joinL (ra.set (ra.length - 1) ((ra.getD (ra.length - 1) noRw).1, false) ++ rb)).length ≤ (ra.set (ra.length - 1) ((ra.getD (ra.length - 1) noRw).1, false) ++ rb).length := joinG_le _ []
        rw [List.length_append] at hjab
        have hX' : SlH (H2.set n ⟨48, 2, e, es1.set (ra.length - 1) [bOf es1 (ra.length - 1), .v (.bool false)], none⟩) 2 (.os n e 0 es1.length) (es1.set (ra.length - 1) [bOf es1 (ra.length - 1), .v (.bool false)]) := by
          refine .inr ⟨n, e, 0, _, by rw [List.length_set], by rw [next_set]; omega, by rw [get_set, if_pos rfl], rfl, rfl, rfl, by simp, ?_⟩
          rw [List.drop_zero]; exact List.take_of_length_le (by rw [List.length_set]; exact Nat.le_refl _)
        have hY' : SlH (H2.set n ⟨48, 2, e, es1.set (ra.length - 1) [bOf es1 (ra.length - 1), .v (.bool false)], none⟩) 2 y es2 := hY.on (by rw [next_set]; exact Nat.le_refl _) fun k hk hk2 => by
          have := ho2.nm hk
          rw [get_set, if_neg (by omega)]
        generalize hr2a : ra.set (ra.length - 1) ((ra.getD (ra.length - 1) noRw).1, false) = ra' at *
        obtain ⟨x2, H3, tr3, x3, H4, tr4, hap1, hap2, hap, hx4⟩ := app2 _ hX' hY' (by rw [List.length_set]; omega) (by omega)
        have hJ := fun ys G (q : Ext H4 G) => Join_run (ys := ys) (lo := 0) (hap.ext q) (hr'.app hr2) (by rw [List.length_append]; omega)
        have hJx := fun ys G (q : Ext H4 G) => Join_run (ys := ys) (lo := 0) ((hX'.ext hx4).ext q) hr' (by omega)
        have hJy := fun ys G (q : Ext H4 G) => Join_run (ys := ys) (lo := 0) ((hY'.ext hx4).ext q) hr2 (by omega)
        repeat' (first
         | refine zka ?_
         | refine zkb ?_
         | (apply RKp.op; ((try simp (disch := (first | omega | exact zX | exact zO | fail)) only [gn, f1, f2, f3, hw1, hap1, hap2, go_sem, Nat.reduceDiv, Nat.reduceMod, Nat.reduceAdd, Nat.reduceSub, Nat.reduceEqDiff, Nat.reduceLeDiff, Nat.reduceLT, Nat.reduceMul, reduceIte, Nat.reducePow, Int.reduceEq]); exact zL); rfl)
         | (apply RKp.callR; (apply hRow <;> (exact zD)); rfl; intro tr htr)
         | (apply RKp.callNE; (apply hJ <;> (exact zD)); (intro x; rfl))
         | refine zkc ?_
         | apply RKg.tt
         | apply RKg.ff
         | refine zkd ?_
         | refine zke ?_
         | refine zkf ?_
         | (refine RKg.split (fun h => ?_) (fun h => ?_) <;> (try rw [h]) <;> (replace h := zB h) <;> (try (exfalso; first | exact h | omega)))
         | apply RK.nil
         | apply V.sq
         | apply V.bl
         | apply V.sc
         | apply V.skip
         | apply V.label
         | apply V.ret
         | apply V.exit
         | apply SeqQ.normal
         | apply SeqQ.ret
         | apply SeqQ.exit
         | apply BlockQ.normal
         | apply BlockQ.ret
         | apply BlockQ.here
         | refine zbt ?_
         | apply LoopS.ret
         | apply LoopS.exit
         | apply LoopF.ret
         | apply LoopF.exit
         | apply V.regK
         | refine zvd ?_
         | refine zve ?_
         | (refine zvf (fun h => ?_) (fun h => ?_) <;> (replace h := zB h) <;> (try (exfalso; first | exact h | omega)))
          | (refine zfc Tryz.results13 ?_; (try dsimp only)))
        rintro u H5 tr5 htr5 ⟨ls5, ho5, hl5, hx5, -⟩
        repeat' (first
         | refine zka ?_
         | refine zkb ?_
         | (apply RKp.op; ((try simp (disch := (first | omega | exact zX | exact zO | fail)) only [go_sem, Nat.reduceDiv, Nat.reduceMod, Nat.reduceAdd, Nat.reduceSub, Nat.reduceEqDiff, Nat.reduceLeDiff, Nat.reduceLT, Nat.reduceMul, reduceIte, Nat.reducePow, Int.reduceEq]); exact zL); rfl)
         | (apply RKp.callNE; (apply hJx <;> (exact zD)); (intro x; rfl))
         | refine zkc ?_
         | apply RKg.tt
         | apply RKg.ff
         | refine zkd ?_
         | refine zke ?_
         | refine zkf ?_
         | (refine RKg.split (fun h => ?_) (fun h => ?_) <;> (try rw [h]) <;> (replace h := zB h) <;> (try (exfalso; first | exact h | omega)))
         | apply RK.nil
         | apply V.sq
         | apply V.bl
         | apply V.sc
         | apply V.skip
         | apply V.label
         | apply V.ret
         | apply V.exit
         | apply SeqQ.normal
         | apply SeqQ.ret
         | apply SeqQ.exit
         | apply BlockQ.normal
         | apply BlockQ.ret
         | apply BlockQ.here
         | refine zbt ?_
         | apply LoopS.ret
         | apply LoopS.exit
         | apply LoopF.ret
         | apply LoopF.exit
         | apply V.regK
         | refine zvd ?_
         | refine zve ?_
         | (refine zvf (fun h => ?_) (fun h => ?_) <;> (replace h := zB h) <;> (try (exfalso; first | exact h | omega)))
          | (refine zfc Tryz.results13 ?_; (try dsimp only)))
        rintro v H6 tr6 htr6 ⟨ls6, ho6, hl6, hx6, -⟩
        have hx56 := hx5.trans hx6
        repeat' (first
         | refine zka ?_
         | refine zkb ?_
         | (apply RKp.op; ((try simp (disch := (first | omega | exact zX | exact zO | fail)) only [go_sem, Nat.reduceDiv, Nat.reduceMod, Nat.reduceAdd, Nat.reduceSub, Nat.reduceEqDiff, Nat.reduceLeDiff, Nat.reduceLT, Nat.reduceMul, reduceIte, Nat.reducePow, Int.reduceEq]); exact zL); rfl)
         | (apply RKp.callNE; (apply hJy <;> (exact zD)); (intro x; rfl))
         | refine zkc ?_
         | apply RKg.tt
         | apply RKg.ff
         | refine zkd ?_
         | refine zke ?_
         | refine zkf ?_
         | (refine RKg.split (fun h => ?_) (fun h => ?_) <;> (try rw [h]) <;> (replace h := zB h) <;> (try (exfalso; first | exact h | omega)))
         | apply RK.nil
         | apply V.sq
         | apply V.bl
         | apply V.sc
         | apply V.skip
         | apply V.label
         | apply V.ret
         | apply V.exit
         | apply SeqQ.normal
         | apply SeqQ.ret
         | apply SeqQ.exit
         | apply BlockQ.normal
         | apply BlockQ.ret
         | apply BlockQ.here
         | refine zbt ?_
         | apply LoopS.ret
         | apply LoopS.exit
         | apply LoopF.ret
         | apply LoopF.exit
         | apply V.regK
         | refine zvd ?_
         | refine zve ?_
         | (refine zvf (fun h => ?_) (fun h => ?_) <;> (replace h := zB h) <;> (try (exfalso; first | exact h | omega)))
          | (refine zfc Tryz.results13 ?_; (try dsimp only)))
        rintro t H7 tr7 htr7 ⟨ls7, ho7, hl7, hx7, -⟩
        have n5 := hx5.next
        have n6 := hx6.next
        have n7 := hx7.next
        have ho6' : OwS H7 H5.next 41 1 v ls6 := ho6.on n7 fun k _ hk => hx7.get k hk
        obtain ⟨z, H8, tr8, hap8, ho8, hnx8, hfr8, -, hnm8⟩ := ho6'.addN (ELo oc) 0 app_line ho7.slh (fun k hk hk2 => by
          have q1 := ho7.nm hk2
          have q2 := ho6.nm hk
          omega) (Nat.zero_le _) (by omega) (by rw [hl6.len, hl7.len]; unfold roomMax; omega)
        have hx8 : Ext H5 H8 := ⟨by omega, fun k hk => by rw [hfr8 k (by omega) (fun z => by have := ho6.nm z; omega), hx7.get k (by omega), hx6.get k hk]⟩
        have hEq := fun ys => eq_run (ys := ys) (lo := 0) (ho5.slh.ext hx8) hl5 ho8.slh (hl6.app hl7) (by omega) (by rw [List.length_append]; omega)
        simp only [decide_eq_true hcut] at hEq
        repeat' (first
         | refine zka ?_
         | refine zkb ?_
         | (apply RKp.op; ((try simp (disch := (first | omega | exact zX | exact zO | fail)) only [hap8, go_sem, Nat.reduceDiv, Nat.reduceMod, Nat.reduceAdd, Nat.reduceSub, Nat.reduceEqDiff, Nat.reduceLeDiff, Nat.reduceLT, Nat.reduceMul, reduceIte, Nat.reducePow, Int.reduceEq]); exact zL); rfl)
         | (apply RKp.callR; (apply hEq <;> (exact zD)); rfl; intro tr htr)
         | refine zkc ?_
         | apply RKg.tt
         | apply RKg.ff
         | refine zkd ?_
         | refine zke ?_
         | refine zkf ?_
         | (refine RKg.split (fun h => ?_) (fun h => ?_) <;> (try rw [h]) <;> (replace h := zB h) <;> (try (exfalso; first | exact h | omega)))
         | apply RK.nil
         | apply V.sq
         | apply V.bl
         | apply V.sc
         | apply V.skip
         | apply V.label
         | apply V.ret
         | apply V.exit
         | apply SeqQ.normal
         | apply SeqQ.ret
         | apply SeqQ.exit
         | apply BlockQ.normal
         | apply BlockQ.ret
         | apply BlockQ.here
         | refine zbt ?_
         | apply LoopS.ret
         | apply LoopS.exit
         | apply LoopF.ret
         | apply LoopF.exit
         | apply V.regK
         | refine zvd ?_
         | refine zve ?_
         | (refine zvf (fun h => ?_) (fun h => ?_) <;> (replace h := zB h) <;> (try (exfalso; first | exact h | omega)))
          | (refine zfc Tryz.results13 ?_; (try dsimp only)))
      · have hs2 : (sndR (ra.getD (ra.length - 1) noRw)).2 = false := by
          rw [sndR_2]
          cases hq : (ra.getD (ra.length - 1) noRw).2 with
          | false => rw [Bool.and_false]
          | true => rw [decide_eq_false (fun z => hw ⟨hq, z⟩), Bool.false_and]
        have hcut : joinL (ra ++ rb) = joinL ra ++ joinL rb := joinG_app hne (by rw [hlast]; exact hs2)
        have hja : (joinL ra).length ≤ ra.length := joinG_le ra []
        have hjab : (joinL (ra ++ rb)).length ≤ (ra ++ rb).length := joinG_le (ra ++ rb) []
        rw [List.length_append] at hjab
        obtain ⟨x2, H3, tr3, x3, H4, tr4, hap1, hap2, hap, hx4⟩ := app2 H2 hX hY (by omega) (by omega)
        have hJ := fun ys G (q : Ext H4 G) => Join_run (ys := ys) (lo := 0) (hap.ext q) (hr1.app hr2) (by rw [List.length_append]; omega)
        have hJx := fun ys G (q : Ext H4 G) => Join_run (ys := ys) (lo := 0) ((hX.ext hx4).ext q) hr1 (by omega)
        have hJy := fun ys G (q : Ext H4 G) => Join_run (ys := ys) (lo := 0) ((hY.ext hx4).ext q) hr2 (by omega)
        by_cases hw1 : (ra.getD (ra.length - 1) noRw).2 = true
        · have hw2 : ¬ rowG (ra.getD (ra.length - 1) noRw).1 := fun z => hw ⟨hw1, z⟩
          simp only [decide_eq_false hw2, hw1] at hRow
          repeat' (first
           | refine zka ?_
           | refine zkb ?_
           | (apply RKp.op; ((try simp (disch := (first | omega | exact zX | exact zO | fail)) only [gn, f1, f2, f3, hw1, hap1, hap2, go_sem, Nat.reduceDiv, Nat.reduceMod, Nat.reduceAdd, Nat.reduceSub, Nat.reduceEqDiff, Nat.reduceLeDiff, Nat.reduceLT, Nat.reduceMul, reduceIte, Nat.reducePow, Int.reduceEq]); exact zL); rfl)
           | (apply RKp.callR; (apply hRow <;> (exact zD)); rfl; intro tr htr)
           | (apply RKp.callNE; (apply hJ <;> (exact zD)); (intro x; rfl))
           | refine zkc ?_
           | apply RKg.tt
           | apply RKg.ff
           | refine zkd ?_
           | refine zke ?_
           | refine zkf ?_
           | (refine RKg.split (fun h => ?_) (fun h => ?_) <;> (try rw [h]) <;> (replace h := zB h) <;> (try (exfalso; first | exact h | omega)))
           | apply RK.nil
           | apply V.sq
           | apply V.bl
           | apply V.sc
           | apply V.skip
           | apply V.label
           | apply V.ret
           | apply V.exit
           | apply SeqQ.normal
           | apply SeqQ.ret
           | apply SeqQ.exit
           | apply BlockQ.normal
           | apply BlockQ.ret
           | apply BlockQ.here
           | refine zbt ?_
           | apply LoopS.ret
           | apply LoopS.exit
           | apply LoopF.ret
           | apply LoopF.exit
           | apply V.regK
           | refine zvd ?_
           | refine zve ?_
           | (refine zvf (fun h => ?_) (fun h => ?_) <;> (replace h := zB h) <;> (try (exfalso; first | exact h | omega)))
            | (refine zfc Tryz.results13 ?_; (try dsimp only)))
          rintro u H5 tr5 htr5 ⟨ls5, ho5, hl5, hx5, -⟩
          repeat' (first
           | refine zka ?_
           | refine zkb ?_
           | (apply RKp.op; ((try simp (disch := (first | omega | exact zX | exact zO | fail)) only [go_sem, Nat.reduceDiv, Nat.reduceMod, Nat.reduceAdd, Nat.reduceSub, Nat.reduceEqDiff, Nat.reduceLeDiff, Nat.reduceLT, Nat.reduceMul, reduceIte, Nat.reducePow, Int.reduceEq]); exact zL); rfl)
           | (apply RKp.callNE; (apply hJx <;> (exact zD)); (intro x; rfl))
           | refine zkc ?_
           | apply RKg.tt
           | apply RKg.ff
           | refine zkd ?_
           | refine zke ?_
           | refine zkf ?_
           | (refine RKg.split (fun h => ?_) (fun h => ?_) <;> (try rw [h]) <;> (replace h := zB h) <;> (try (exfalso; first | exact h | omega)))
           | apply RK.nil
           | apply V.sq
           | apply V.bl
           | apply V.sc
           | apply V.skip
           | apply V.label
           | apply V.ret
           | apply V.exit
           | apply SeqQ.normal
           | apply SeqQ.ret
           | apply SeqQ.exit
           | apply BlockQ.normal
           | apply BlockQ.ret
           | apply BlockQ.here
           | refine zbt ?_
           | apply LoopS.ret
           | apply LoopS.exit
           | apply LoopF.ret
           | apply LoopF.exit
           | apply V.regK
           | refine zvd ?_
           | refine zve ?_
           | (refine zvf (fun h => ?_) (fun h => ?_) <;> (replace h := zB h) <;> (try (exfalso; first | exact h | omega)))
            | (refine zfc Tryz.results13 ?_; (try dsimp only)))
          rintro v H6 tr6 htr6 ⟨ls6, ho6, hl6, hx6, -⟩
          have hx56 := hx5.trans hx6
          repeat' (first
           | refine zka ?_
           | refine zkb ?_
           | (apply RKp.op; ((try simp (disch := (first | omega | exact zX | exact zO | fail)) only [go_sem, Nat.reduceDiv, Nat.reduceMod, Nat.reduceAdd, Nat.reduceSub, Nat.reduceEqDiff, Nat.reduceLeDiff, Nat.reduceLT, Nat.reduceMul, reduceIte, Nat.reducePow, Int.reduceEq]); exact zL); rfl)
           | (apply RKp.callNE; (apply hJy <;> (exact zD)); (intro x; rfl))
           | refine zkc ?_
           | apply RKg.tt
           | apply RKg.ff
           | refine zkd ?_
           | refine zke ?_
           | refine zkf ?_
           | (refine RKg.split (fun h => ?_) (fun h => ?_) <;> (try rw [h]) <;> (replace h := zB h) <;> (try (exfalso; first | exact h | omega)))
           | apply RK.nil
           | apply V.sq
           | apply V.bl
           | apply V.sc
           | apply V.skip
           | apply V.label
           | apply V.ret
           | apply V.exit
           | apply SeqQ.normal
           | apply SeqQ.ret
           | apply SeqQ.exit
           | apply BlockQ.normal
           | apply BlockQ.ret
           | apply BlockQ.here
           | refine zbt ?_
           | apply LoopS.ret
           | apply LoopS.exit
           | apply LoopF.ret
           | apply LoopF.exit
           | apply V.regK
           | refine zvd ?_
           | refine zve ?_
           | (refine zvf (fun h => ?_) (fun h => ?_) <;> (replace h := zB h) <;> (try (exfalso; first | exact h | omega)))
            | (refine zfc Tryz.results13 ?_; (try dsimp only)))
          rintro t H7 tr7 htr7 ⟨ls7, ho7, hl7, hx7, -⟩
          have n5 := hx5.next
          have n6 := hx6.next
          have n7 := hx7.next
          have ho6' : OwS H7 H5.next 41 1 v ls6 := ho6.on n7 fun k _ hk => hx7.get k hk
          obtain ⟨z, H8, tr8, hap8, ho8, hnx8, hfr8, -, hnm8⟩ := ho6'.addN (ELo oc) 0 app_line ho7.slh (fun k hk hk2 => by
            have q1 := ho7.nm hk2
            have q2 := ho6.nm hk
            omega) (Nat.zero_le _) (by omega) (by rw [hl6.len, hl7.len]; unfold roomMax; omega)
          have hx8 : Ext H5 H8 := ⟨by omega, fun k hk => by rw [hfr8 k (by omega) (fun z => by have := ho6.nm z; omega), hx7.get k (by omega), hx6.get k hk]⟩
          have hEq := fun ys => eq_run (ys := ys) (lo := 0) (ho5.slh.ext hx8) hl5 ho8.slh (hl6.app hl7) (by omega) (by rw [List.length_append]; omega)
          simp only [decide_eq_true hcut] at hEq
          repeat' (first
           | refine zka ?_
           | refine zkb ?_
           | (apply RKp.op; ((try simp (disch := (first | omega | exact zX | exact zO | fail)) only [hap8, go_sem, Nat.reduceDiv, Nat.reduceMod, Nat.reduceAdd, Nat.reduceSub, Nat.reduceEqDiff, Nat.reduceLeDiff, Nat.reduceLT, Nat.reduceMul, reduceIte, Nat.reducePow, Int.reduceEq]); exact zL); rfl)
           | (apply RKp.callR; (apply hEq <;> (exact zD)); rfl; intro tr htr)
           | refine zkc ?_
           | apply RKg.tt
           | apply RKg.ff
           | refine zkd ?_
           | refine zke ?_
           | refine zkf ?_
           | (refine RKg.split (fun h => ?_) (fun h => ?_) <;> (try rw [h]) <;> (replace h := zB h) <;> (try (exfalso; first | exact h | omega)))
           | apply RK.nil
           | apply V.sq
           | apply V.bl
           | apply V.sc
           | apply V.skip
           | apply V.label
           | apply V.ret
           | apply V.exit
           | apply SeqQ.normal
           | apply SeqQ.ret
           | apply SeqQ.exit
           | apply BlockQ.normal
           | apply BlockQ.ret
           | apply BlockQ.here
           | refine zbt ?_
           | apply LoopS.ret
           | apply LoopS.exit
           | apply LoopF.ret
           | apply LoopF.exit
           | apply V.regK
           | refine zvd ?_
           | refine zve ?_
           | (refine zvf (fun h => ?_) (fun h => ?_) <;> (replace h := zB h) <;> (try (exfalso; first | exact h | omega)))
            | (refine zfc Tryz.results13 ?_; (try dsimp only)))
        · have hw1' : (ra.getD (ra.length - 1) noRw).2 = false := Bool.eq_false_iff.2 hw1
          repeat' (first
           | refine zka ?_
           | refine zkb ?_
           | (apply RKp.op; ((try simp (disch := (first | omega | exact zX | exact zO | fail)) only [gn, f1, f2, f3, hw1', hap1, hap2, go_sem, Nat.reduceDiv, Nat.reduceMod, Nat.reduceAdd, Nat.reduceSub, Nat.reduceEqDiff, Nat.reduceLeDiff, Nat.reduceLT, Nat.reduceMul, reduceIte, Nat.reducePow, Int.reduceEq]); exact zL); rfl)
           | (apply RKp.callR; (apply hRow <;> (exact zD)); rfl; intro tr htr)
           | (apply RKp.callNE; (apply hJ <;> (exact zD)); (intro x; rfl))
           | refine zkc ?_
           | apply RKg.tt
           | apply RKg.ff
           | refine zkd ?_
           | refine zke ?_
           | refine zkf ?_
           | (refine RKg.split (fun h => ?_) (fun h => ?_) <;> (try rw [h]) <;> (replace h := zB h) <;> (try (exfalso; first | exact h | omega)))
           | apply RK.nil
           | apply V.sq
           | apply V.bl
           | apply V.sc
           | apply V.skip
           | apply V.label
           | apply V.ret
           | apply V.exit
           | apply SeqQ.normal
           | apply SeqQ.ret
           | apply SeqQ.exit
           | apply BlockQ.normal
           | apply BlockQ.ret
           | apply BlockQ.here
           | refine zbt ?_
           | apply LoopS.ret
           | apply LoopS.exit
           | apply LoopF.ret
           | apply LoopF.exit
           | apply V.regK
           | refine zvd ?_
           | refine zve ?_
           | (refine zvf (fun h => ?_) (fun h => ?_) <;> (replace h := zB h) <;> (try (exfalso; first | exact h | omega)))
            | (refine zfc Tryz.results13 ?_; (try dsimp only)))
          rintro u H5 tr5 htr5 ⟨ls5, ho5, hl5, hx5, -⟩
          repeat' (first
           | refine zka ?_
           | refine zkb ?_
           | (apply RKp.op; ((try simp (disch := (first | omega | exact zX | exact zO | fail)) only [go_sem, Nat.reduceDiv, Nat.reduceMod, Nat.reduceAdd, Nat.reduceSub, Nat.reduceEqDiff, Nat.reduceLeDiff, Nat.reduceLT, Nat.reduceMul, reduceIte, Nat.reducePow, Int.reduceEq]); exact zL); rfl)
           | (apply RKp.callNE; (apply hJx <;> (exact zD)); (intro x; rfl))
           | refine zkc ?_
           | apply RKg.tt
           | apply RKg.ff
           | refine zkd ?_
           | refine zke ?_
           | refine zkf ?_
           | (refine RKg.split (fun h => ?_) (fun h => ?_) <;> (try rw [h]) <;> (replace h := zB h) <;> (try (exfalso; first | exact h | omega)))
           | apply RK.nil
           | apply V.sq
           | apply V.bl
           | apply V.sc
           | apply V.skip
           | apply V.label
           | apply V.ret
           | apply V.exit
           | apply SeqQ.normal
           | apply SeqQ.ret
           | apply SeqQ.exit
           | apply BlockQ.normal
           | apply BlockQ.ret
           | apply BlockQ.here
           | refine zbt ?_
           | apply LoopS.ret
           | apply LoopS.exit
           | apply LoopF.ret
           | apply LoopF.exit
           | apply V.regK
           | refine zvd ?_
           | refine zve ?_
           | (refine zvf (fun h => ?_) (fun h => ?_) <;> (replace h := zB h) <;> (try (exfalso; first | exact h | omega)))
            | (refine zfc Tryz.results13 ?_; (try dsimp only)))
          rintro v H6 tr6 htr6 ⟨ls6, ho6, hl6, hx6, -⟩
          have hx56 := hx5.trans hx6
          repeat' (first
           | refine zka ?_
           | refine zkb ?_
           | (apply RKp.op; ((try simp (disch := (first | omega | exact zX | exact zO | fail)) only [go_sem, Nat.reduceDiv, Nat.reduceMod, Nat.reduceAdd, Nat.reduceSub, Nat.reduceEqDiff, Nat.reduceLeDiff, Nat.reduceLT, Nat.reduceMul, reduceIte, Nat.reducePow, Int.reduceEq]); exact zL); rfl)
           | (apply RKp.callNE; (apply hJy <;> (exact zD)); (intro x; rfl))
           | refine zkc ?_
           | apply RKg.tt
           | apply RKg.ff
           | refine zkd ?_
           | refine zke ?_
           | refine zkf ?_
           | (refine RKg.split (fun h => ?_) (fun h => ?_) <;> (try rw [h]) <;> (replace h := zB h) <;> (try (exfalso; first | exact h | omega)))
           | apply RK.nil
           | apply V.sq
           | apply V.bl
           | apply V.sc
           | apply V.skip
           | apply V.label
           | apply V.ret
           | apply V.exit
           | apply SeqQ.normal
           | apply SeqQ.ret
           | apply SeqQ.exit
           | apply BlockQ.normal
           | apply BlockQ.ret
           | apply BlockQ.here
           | refine zbt ?_
           | apply LoopS.ret
           | apply LoopS.exit
           | apply LoopF.ret
           | apply LoopF.exit
           | apply V.regK
           | refine zvd ?_
           | refine zve ?_
           | (refine zvf (fun h => ?_) (fun h => ?_) <;> (replace h := zB h) <;> (try (exfalso; first | exact h | omega)))
            | (refine zfc Tryz.results13 ?_; (try dsimp only)))
          rintro t H7 tr7 htr7 ⟨ls7, ho7, hl7, hx7, -⟩
          have n5 := hx5.next
          have n6 := hx6.next
          have n7 := hx7.next
          have ho6' : OwS H7 H5.next 41 1 v ls6 := ho6.on n7 fun k _ hk => hx7.get k hk
          obtain ⟨z, H8, tr8, hap8, ho8, hnx8, hfr8, -, hnm8⟩ := ho6'.addN (ELo oc) 0 app_line ho7.slh (fun k hk hk2 => by
            have q1 := ho7.nm hk2
            have q2 := ho6.nm hk
            omega) (Nat.zero_le _) (by omega) (by rw [hl6.len, hl7.len]; unfold roomMax; omega)
          have hx8 : Ext H5 H8 := ⟨by omega, fun k hk => by rw [hfr8 k (by omega) (fun z => by have := ho6.nm z; omega), hx7.get k (by omega), hx6.get k hk]⟩
          have hEq := fun ys => eq_run (ys := ys) (lo := 0) (ho5.slh.ext hx8) hl5 ho8.slh (hl6.app hl7) (by omega) (by rw [List.length_append]; omega)
          simp only [decide_eq_true hcut] at hEq
          repeat' (first
           | refine zka ?_
           | refine zkb ?_
           | (apply RKp.op; ((try simp (disch := (first | omega | exact zX | exact zO | fail)) only [hap8, go_sem, Nat.reduceDiv, Nat.reduceMod, Nat.reduceAdd, Nat.reduceSub, Nat.reduceEqDiff, Nat.reduceLeDiff, Nat.reduceLT, Nat.reduceMul, reduceIte, Nat.reducePow, Int.reduceEq]); exact zL); rfl)
           | (apply RKp.callR; (apply hEq <;> (exact zD)); rfl; intro tr htr)
           | refine zkc ?_
           | apply RKg.tt
           | apply RKg.ff
           | refine zkd ?_
           | refine zke ?_
           | refine zkf ?_
           | (refine RKg.split (fun h => ?_) (fun h => ?_) <;> (try rw [h]) <;> (replace h := zB h) <;> (try (exfalso; first | exact h | omega)))
           | apply RK.nil
           | apply V.sq
           | apply V.bl
           | apply V.sc
           | apply V.skip
           | apply V.label
           | apply V.ret
           | apply V.exit
           | apply SeqQ.normal
           | apply SeqQ.ret
           | apply SeqQ.exit
           | apply BlockQ.normal
           | apply BlockQ.ret
           | apply BlockQ.here
           | refine zbt ?_
           | apply LoopS.ret
           | apply LoopS.exit
           | apply LoopF.ret
           | apply LoopF.exit
           | apply V.regK
           | refine zvd ?_
           | refine zve ?_
           | (refine zvf (fun h => ?_) (fun h => ?_) <;> (replace h := zB h) <;> (try (exfalso; first | exact h | omega)))
            | (refine zfc Tryz.results13 ?_; (try dsimp only)))
end
end Go.Am
