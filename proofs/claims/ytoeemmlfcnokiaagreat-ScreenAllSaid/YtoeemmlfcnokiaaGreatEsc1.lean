/- The parser of escapes and the reference's: what they are, in plain words, and what their calls do. -/
import Derived.Test.YtoeemmlfcnokiaaGreatAmE
set_option linter.all false
set_option linter.deprecated false
namespace Go.Am
open Go.Proofs
set_option maxRecDepth 8000
set_option maxHeartbeats 1000000

/-! The plain parser. -/
structure Ev where
  kind : Int
  r : Int
  args : List Int
  text : ByteArray
def signB (r : Int) : Bool := decide (0 ≤ r ∧ r ≤ 1114111 ∧ (r < 55296 ∨ 57343 < r))
def enc (r : Int) : List Int :=
  if signB r then
    if r < 128 then [r] else if r < 2048 then [192 + r / 64, 128 + r % 64] else if r < 65536 then [224 + r / 4096, 128 + r / 64 % 64, 128 + r % 64] else [240 + r / 262144, 128 + r / 4096 % 64, 128 + r / 64 % 64, 128 + r % 64]
  else [239, 191, 189]
def utf8 (t : List Int) : List Int := t.flatMap enc
def emptyB : ByteArray := ⟨#[]⟩
def validC (c : Int) : Bool := decide (c = 59 ∨ 48 ≤ c ∧ c ≤ 57)
def stepArgs (a : List Int) (c : Int) : List Int := if c = 59 then a ++ [0] else if 48 ≤ c ∧ c ≤ 57 then a.set (a.length - 1) (min (10 * a.getD (a.length - 1) 0 + (c - 48)) 9999) else a
def csiArgs (t : List Int) : List Int := t.foldl stepArgs [0]
def oscEv (t : List Int) : Option Ev := if (utf8 t).length ≤ 4000 then some ⟨4, 0, [], strOfNums (utf8 t)⟩ else none
def csiEv (t : List Int) (r : Int) : Option Ev := if t.all validC then some ⟨3, r, if t = [] then [] else (csiArgs t).take 8, emptyB⟩ else none
def ctrlB (r : Int) : Bool := decide (r = 8 ∨ r = 9 ∨ r = 10 ∨ r = 13)
def put (w : Int) (t : List Int) (r : Int) : Int × List Int × Option Ev :=
  if w = 4 ∧ r = 92 then (0, t, oscEv t)
  else if w = 4 ∨ w = 1 then (if r = 91 then 2 else if r = 93 then 3 else if r = 27 then 1 else 0, [], none)
  else if w = 0 then if ctrlB r then (0, t, some ⟨2, r, [], emptyB⟩) else if r = 27 then (1, t, none) else if 32 ≤ r ∧ r ≠ 127 then (0, t, some ⟨1, r, [], emptyB⟩) else (0, t, none)
  else if w = 2 then if r = 27 then (1, t, none) else if r < 32 then (0, t, none) else if 64 ≤ r ∧ r ≤ 126 then (0, t, csiEv t r) else (2, t ++ [r], none)
  else if r = 7 then (0, t, oscEv t) else if r = 27 then (4, t, none) else (3, t ++ [r], none)

section
variable {ys : List (Nat × LRec)} {lo : Nat} {H : AHeap} {F : Nat → Prop} {n : Nat} {w : Int} {t : List Int}
/-! esc.Parser. -/
abbrev pBlk (w : Int) (A : AV) (any sp : Bool) (X : AV) : Blk := ⟨28, 5, 0, [[.v (.int .i64 w), A, .v (.bool any), .v (.bool sp), X]], none⟩
/-- The parser at n is where the plain one is. -/
structure PP (H : AHeap) (F : Nat → Prop) (n : Nat) (w : Int) (t : List Int) (A : AV) (any sp : Bool) (X : AV) : Prop where
  own : F n
  lt : n < H.next
  blk : H.get n = some (pBlk w A any sp X)
  ca : cellsOf A = some [A]
  cx : cellsOf X = some [X]
  w4 : w = 0 ∨ w = 1 ∨ w = 2 ∨ w = 3 ∨ w = 4
  csi : w = 2 → OwnS H F 3 1 A (ints (csiArgs t)) ∧ sp = !(t.all validC) ∧ (any = true ↔ ∃ c ∈ t, validC c = true)
  osc : w = 3 ∨ w = 4 → sp = decide (4000 < (utf8 t).length) ∧ (sp = false → OwnS H F 5 1 X (bytesL (utf8 t)))
/-- What a call tells: the events, in a slice of their own. -/
def EvR (H : AHeap) (F : Nat → Prop) (R : AV) (e : Option Ev) : Prop := match e with
  | none => R = nilA
  | some e => ∃ k A, R = .os k 0 0 1 ∧ F k ∧ k < H.next ∧ H.get k = some ⟨35, 4, 0, [[.v (.int .i64 e.kind), .v (.int .i32 e.r), A, .v (.string e.text)]], none⟩ ∧ SlH H 1 A (ints e.args) ∧ ∀ m e off len, A = .os m e off len → F m

theorem PP.keep {A X : AV} {any sp : Bool} (h : PP H F n w t A any sp X) {H' : AHeap} {F' : Nat → Prop} (hF : ∀ k, F k → F' k) (hn : H.next ≤ H'.next) (hk : ∀ k, F k → k < H.next → H'.get k = H.get k) : PP H' F' n w t A any sp X :=
  ⟨hF n h.own, Nat.lt_of_lt_of_le h.lt hn, by rw [hk n h.own h.lt, h.blk], h.ca, h.cx, h.w4, fun hw => ⟨(h.csi hw).1.frame hF hn hk, (h.csi hw).2⟩, fun hw => ⟨(h.osc hw).1, fun hs => ((h.osc hw).2 hs).frame hF hn hk⟩⟩
/-- The state alone is turned. -/
theorem PP.st {A X : AV} {any sp : Bool} (h : PP H F n w t A any sp X) (w' : Int) {t' : List Int} (hw : w' = 0 ∨ w' = 1 ∨ (w' = 4 ∧ w = 3 ∧ t' = t)) {F' : Nat → Prop} (hF : ∀ k, F k → F' k) : PP (H.set n (pBlk w' A any sp X)) F' n w' t' A any sp X :=
  ⟨hF n h.own, h.lt, by rw [get_set, if_pos rfl], h.ca, h.cx, by omega, fun e => by omega, fun e => by
    have h3 : w = 3 := by omega
    obtain rfl : t' = t := by rcases hw with h | h | h <;> first | omega | exact h.2.2
    exact ⟨(h.osc (.inl h3)).1, fun hs => (((h.osc (.inl h3)).2 hs).set h.blk (Nat.ne_of_beq_eq_false rfl) _).mono hF⟩⟩
theorem EvR.new {F' : Nat → Prop} (hF : F' H.next) (k r : Int) (s : ByteArray) : EvR (H.push ⟨35, 4, 0, [[.v (.int .i64 k), .v (.int .i32 r), .v (.slice none 0 0), .v (.string s)]], none⟩) F' (.os H.next 0 0 1) (some ⟨k, r, [], s⟩) :=
  ⟨H.next, _, rfl, hF, Nat.lt_succ_self _, by rw [get_push, if_pos rfl], .inl (.inr ⟨rfl, .inr rfl⟩), fun m e off len h => by cases h⟩
theorem growF {F : Nat → Prop} {H H' : AHeap} (k : Nat) (h : F k) : grow F H H' k := .inl h
theorem grow_next {F : Nat → Prop} {H H' : AHeap} {k : Nat} (h : H.next ≤ k) (h' : k < H'.next) : grow F H H' k := .inr ⟨h, h'⟩
theorem told_wc (hlo : ∀ k, F k → lo ≤ k) {A X : AV} {any sp : Bool} (hP : PP H F n w t A any sp X) (hw : w = 3 ∨ w = 4) : WC EZ ys lo 55 [.op n 0 0 0] H fun R H' => Turn F H H' ∧ (∃ X', PP H' (grow F H H') n 0 t A any sp X') ∧ EvR H' (grow F H H') R (oscEv t) := by
  obtain ⟨h1, h2⟩ := hP.osc hw
  have hb := hP.blk
  have hln := hlo n hP.own
  unfold pBlk at hb
  refine zvin Tryz.func55 Tryz.ntmps55 ?_
  repeat' (first
   | apply V.sq
   | apply V.bl
   | apply V.sc
   | apply V.skip
   | apply V.label
   | apply V.ret
   | apply V.exit
   | apply SeqQ.normal
   | apply SeqQ.ret
   | apply SeqQ.exit
   | apply BlockQ.normal
   | apply BlockQ.ret
   | apply BlockQ.here
   | refine zbt ?_
   | apply LoopS.ret
   | apply LoopS.exit
   | apply LoopF.ret
   | apply LoopF.exit
   | (apply V.reg; (focus ((repeat (first
   | exact RO.nil
   | (apply RO.op; rfl; (simp only [hb, hln, go_sem, get_nth, fieldAddrA, Nat.reduceDiv, Nat.reduceMod, Nat.reduceAdd, Nat.reduceSub, Nat.reduceEqDiff, Nat.reduceLeDiff, Nat.reduceLT, Nat.reduceMul, reduceIte, Nat.reducePow, Int.reduceEq, List.toList_toArray]; exact zL); rfl)
   | (apply RO.opg; exact zW; (intro h; (try simp only [Bool.and_eq_true, Bool.not_eq_true', Bool.not_eq_eq_eq_not, Bool.not_true] at h); simp only [h, hb, hln, go_sem, get_nth, fieldAddrA, Nat.reduceDiv, Nat.reduceMod, Nat.reduceAdd, Nat.reduceSub, Nat.reduceEqDiff, Nat.reduceLeDiff, Nat.reduceLT, Nat.reduceMul, reduceIte, Nat.reducePow, Int.reduceEq, List.toList_toArray]; exact zL); rfl)
   | (apply RO.call; exact want0 rfl; (simp only [hb, hln, go_sem, get_nth, fieldAddrA, Nat.reduceDiv, Nat.reduceMod, Nat.reduceAdd, Nat.reduceSub, Nat.reduceEqDiff, Nat.reduceLeDiff, Nat.reduceLT, Nat.reduceMul, reduceIte, Nat.reducePow, Int.reduceEq, List.toList_toArray]; rfl); fail; rfl)
   | (apply RO.callg; exact zW; (intro h; (try simp only [Bool.and_eq_true, Bool.not_eq_true', Bool.not_eq_eq_eq_not, Bool.not_true] at h); simp only [h, hb, hln, go_sem, get_nth, fieldAddrA, Nat.reduceDiv, Nat.reduceMod, Nat.reduceAdd, Nat.reduceSub, Nat.reduceEqDiff, Nat.reduceLeDiff, Nat.reduceLT, Nat.reduceMul, reduceIte, Nat.reducePow, Int.reduceEq, List.toList_toArray]; rfl); (intro h; (try simp only [Bool.and_eq_true, Bool.not_eq_true', Bool.not_eq_eq_eq_not, Bool.not_true] at h); fail); rfl)
   | (apply RO.no; apply wantNo; exact zW; (first | rfl | (focus (simp only [hb, hln, Bool.and_false, Bool.false_and, Bool.not_true, Bool.not_false, decide_true, decide_false, Bool.or_true, Bool.true_or, not_true_eq_false, not_false_eq_true, Bool.and_true, Bool.true_and]; done))); rfl))); done)))
   | (apply V.regd; (focus ((repeat (first
   | exact RO.nil
   | (apply RO.op; rfl; (simp only [hb, hln, go_sem, get_nth, fieldAddrA, Nat.reduceDiv, Nat.reduceMod, Nat.reduceAdd, Nat.reduceSub, Nat.reduceEqDiff, Nat.reduceLeDiff, Nat.reduceLT, Nat.reduceMul, reduceIte, Nat.reducePow, Int.reduceEq, List.toList_toArray]; exact zL); rfl)
   | (apply RO.opg; exact zW; (intro h; (try simp only [Bool.and_eq_true, Bool.not_eq_true', Bool.not_eq_eq_eq_not, Bool.not_true] at h); simp only [h, hb, hln, go_sem, get_nth, fieldAddrA, Nat.reduceDiv, Nat.reduceMod, Nat.reduceAdd, Nat.reduceSub, Nat.reduceEqDiff, Nat.reduceLeDiff, Nat.reduceLT, Nat.reduceMul, reduceIte, Nat.reducePow, Int.reduceEq, List.toList_toArray]; exact zL); rfl)
   | (apply RO.call; exact want0 rfl; (simp only [hb, hln, go_sem, get_nth, fieldAddrA, Nat.reduceDiv, Nat.reduceMod, Nat.reduceAdd, Nat.reduceSub, Nat.reduceEqDiff, Nat.reduceLeDiff, Nat.reduceLT, Nat.reduceMul, reduceIte, Nat.reducePow, Int.reduceEq, List.toList_toArray]; rfl); fail; rfl)
   | (apply RO.callg; exact zW; (intro h; (try simp only [Bool.and_eq_true, Bool.not_eq_true', Bool.not_eq_eq_eq_not, Bool.not_true] at h); simp only [h, hb, hln, go_sem, get_nth, fieldAddrA, Nat.reduceDiv, Nat.reduceMod, Nat.reduceAdd, Nat.reduceSub, Nat.reduceEqDiff, Nat.reduceLeDiff, Nat.reduceLT, Nat.reduceMul, reduceIte, Nat.reducePow, Int.reduceEq, List.toList_toArray]; rfl); (intro h; (try simp only [Bool.and_eq_true, Bool.not_eq_true', Bool.not_eq_eq_eq_not, Bool.not_true] at h); fail); rfl)
   | (apply RO.no; apply wantNo; exact zW; (first | rfl | (focus (simp only [hb, hln, Bool.and_false, Bool.false_and, Bool.not_true, Bool.not_false, decide_true, decide_false, Bool.or_true, Bool.true_or, not_true_eq_false, not_false_eq_true, Bool.and_true, Bool.true_and]; done))); rfl))); done)); exact zK; exact zE)
   | (refine zvf (fun h => ?_) (fun h => ?_) <;> (replace h := zB h) <;> (try (exfalso; first | exact h | omega)))
   | (refine zfc Tryz.results55 ?_; (try dsimp only)))
  · refine ⟨(Turn.refl F H).set n _ (.inl hP.own), ⟨X, .inl hP.own, hP.lt, by rw [get_set, if_pos rfl], hP.ca, hP.cx, by omega, fun h => by omega, fun h => by omega⟩, ?_⟩
    have : 4000 < (utf8 t).length := by simpa [h1] using ‹sp = true›
    simp only [oscEv, if_neg (show ¬ (utf8 t).length ≤ 4000 by omega)]; rfl
  · have h3 := h2 ‹_›
    have h4 := (h3.set hb (Nat.ne_of_beq_eq_false rfl) (pBlk 0 A any sp X)).slh
    have h5 := hP.cx
    unfold pBlk at h4
    have h6 := conv_bytes EZ lo (dst := 9) Tryz.underlying26 (by kernel_rfl) (by kernel_rfl) h4
    repeat' (first
     | apply V.sq
     | apply V.bl
     | apply V.sc
     | apply V.skip
     | apply V.label
     | apply V.ret
     | apply V.exit
     | apply SeqQ.normal
     | apply SeqQ.ret
     | apply SeqQ.exit
     | apply BlockQ.normal
     | apply BlockQ.ret
     | apply BlockQ.here
     | refine zbt ?_
     | apply LoopS.ret
     | apply LoopS.exit
     | apply LoopF.ret
     | apply LoopF.exit
     | (apply V.reg; (focus ((repeat (first
     | exact RO.nil
     | (apply RO.op; rfl; (simp only [hb, hln, h5, h6, go_sem, get_nth, fieldAddrA, Nat.reduceDiv, Nat.reduceMod, Nat.reduceAdd, Nat.reduceSub, Nat.reduceEqDiff, Nat.reduceLeDiff, Nat.reduceLT, Nat.reduceMul, reduceIte, Nat.reducePow, Int.reduceEq, List.toList_toArray]; exact zL); rfl)
     | (apply RO.opg; exact zW; (intro h; (try simp only [Bool.and_eq_true, Bool.not_eq_true', Bool.not_eq_eq_eq_not, Bool.not_true] at h); simp only [h, hb, hln, h5, h6, go_sem, get_nth, fieldAddrA, Nat.reduceDiv, Nat.reduceMod, Nat.reduceAdd, Nat.reduceSub, Nat.reduceEqDiff, Nat.reduceLeDiff, Nat.reduceLT, Nat.reduceMul, reduceIte, Nat.reducePow, Int.reduceEq, List.toList_toArray]; exact zL); rfl)
     | (apply RO.call; exact want0 rfl; (simp only [hb, hln, h5, h6, go_sem, get_nth, fieldAddrA, Nat.reduceDiv, Nat.reduceMod, Nat.reduceAdd, Nat.reduceSub, Nat.reduceEqDiff, Nat.reduceLeDiff, Nat.reduceLT, Nat.reduceMul, reduceIte, Nat.reducePow, Int.reduceEq, List.toList_toArray]; rfl); fail; rfl)
     | (apply RO.callg; exact zW; (intro h; (try simp only [Bool.and_eq_true, Bool.not_eq_true', Bool.not_eq_eq_eq_not, Bool.not_true] at h); simp only [h, hb, hln, h5, h6, go_sem, get_nth, fieldAddrA, Nat.reduceDiv, Nat.reduceMod, Nat.reduceAdd, Nat.reduceSub, Nat.reduceEqDiff, Nat.reduceLeDiff, Nat.reduceLT, Nat.reduceMul, reduceIte, Nat.reducePow, Int.reduceEq, List.toList_toArray]; rfl); (intro h; (try simp only [Bool.and_eq_true, Bool.not_eq_true', Bool.not_eq_eq_eq_not, Bool.not_true] at h); fail); rfl)
     | (apply RO.no; apply wantNo; exact zW; (first | rfl | (focus (simp only [hb, hln, h5, h6, Bool.and_false, Bool.false_and, Bool.not_true, Bool.not_false, decide_true, decide_false, Bool.or_true, Bool.true_or, not_true_eq_false, not_false_eq_true, Bool.and_true, Bool.true_and]; done))); rfl))); done)))
     | (apply V.regd; (focus ((repeat (first
     | exact RO.nil
     | (apply RO.op; rfl; (simp only [hb, hln, h5, h6, go_sem, get_nth, fieldAddrA, Nat.reduceDiv, Nat.reduceMod, Nat.reduceAdd, Nat.reduceSub, Nat.reduceEqDiff, Nat.reduceLeDiff, Nat.reduceLT, Nat.reduceMul, reduceIte, Nat.reducePow, Int.reduceEq, List.toList_toArray]; exact zL); rfl)
     | (apply RO.opg; exact zW; (intro h; (try simp only [Bool.and_eq_true, Bool.not_eq_true', Bool.not_eq_eq_eq_not, Bool.not_true] at h); simp only [h, hb, hln, h5, h6, go_sem, get_nth, fieldAddrA, Nat.reduceDiv, Nat.reduceMod, Nat.reduceAdd, Nat.reduceSub, Nat.reduceEqDiff, Nat.reduceLeDiff, Nat.reduceLT, Nat.reduceMul, reduceIte, Nat.reducePow, Int.reduceEq, List.toList_toArray]; exact zL); rfl)
     | (apply RO.call; exact want0 rfl; (simp only [hb, hln, h5, h6, go_sem, get_nth, fieldAddrA, Nat.reduceDiv, Nat.reduceMod, Nat.reduceAdd, Nat.reduceSub, Nat.reduceEqDiff, Nat.reduceLeDiff, Nat.reduceLT, Nat.reduceMul, reduceIte, Nat.reducePow, Int.reduceEq, List.toList_toArray]; rfl); fail; rfl)
     | (apply RO.callg; exact zW; (intro h; (try simp only [Bool.and_eq_true, Bool.not_eq_true', Bool.not_eq_eq_eq_not, Bool.not_true] at h); simp only [h, hb, hln, h5, h6, go_sem, get_nth, fieldAddrA, Nat.reduceDiv, Nat.reduceMod, Nat.reduceAdd, Nat.reduceSub, Nat.reduceEqDiff, Nat.reduceLeDiff, Nat.reduceLT, Nat.reduceMul, reduceIte, Nat.reducePow, Int.reduceEq, List.toList_toArray]; rfl); (intro h; (try simp only [Bool.and_eq_true, Bool.not_eq_true', Bool.not_eq_eq_eq_not, Bool.not_true] at h); fail); rfl)
     | (apply RO.no; apply wantNo; exact zW; (first | rfl | (focus (simp only [hb, hln, h5, h6, Bool.and_false, Bool.false_and, Bool.not_true, Bool.not_false, decide_true, decide_false, Bool.or_true, Bool.true_or, not_true_eq_false, not_false_eq_true, Bool.and_true, Bool.true_and]; done))); rfl))); done)); exact zK; exact zE)
     | (refine zvf (fun h => ?_) (fun h => ?_) <;> (replace h := zB h) <;> (try (exfalso; first | exact h | omega)))
     | (refine zfc Tryz.results55 ?_; (try dsimp only)))
    have h7 : (utf8 t).length ≤ 4000 := by rw [h] at h1; have := of_decide_eq_false h1.symm; omega
    refine ⟨((Turn.refl F H).set n _ (.inl hP.own)).push _, ⟨X, .inl hP.own, Nat.lt_succ_of_lt hP.lt, by rw [get_push, if_neg (by have := hP.lt; rw [next_set]; omega), get_set, if_pos rfl], hP.ca, hP.cx, .inl rfl, fun h => by omega, fun h => by omega⟩, ?_⟩
    simp only [oscEv, if_pos h7]
    exact ⟨H.next, _, rfl, .inr ⟨Nat.le_refl _, Nat.lt_succ_self _⟩, Nat.lt_succ_self _, by rw [get_push, next_set, if_pos rfl], .inl (.inr ⟨rfl, .inr rfl⟩), fun m e off len h => by cases h⟩
theorem rests_wc (hlo : ∀ k, F k → lo ≤ k) {A X : AV} {any sp : Bool} (hP : PP H F n 0 t A any sp X) (r : Int) : WC EZ ys lo 56 [.op n 0 0 0, .v (.int .i32 r)] H fun R H' => Turn F H H' ∧ PP H' (grow F H H') n (put 0 t r).1 t A any sp X ∧ EvR H' (grow F H H') R (put 0 t r).2.2 := by
  have hb := hP.blk
  have hln := hlo n hP.own
  unfold pBlk at hb
  refine zvin Tryz.func56 Tryz.ntmps56 ?_
  repeat' (first
   | apply V.sq
   | apply V.bl
   | apply V.sc
   | apply V.skip
   | apply V.label
   | apply V.ret
   | apply V.exit
   | apply SeqQ.normal
   | apply SeqQ.ret
   | apply SeqQ.exit
   | apply BlockQ.normal
   | apply BlockQ.ret
   | apply BlockQ.here
   | refine zbt ?_
   | apply LoopS.ret
   | apply LoopS.exit
   | apply LoopF.ret
   | apply LoopF.exit
   | (apply V.reg; (focus ((repeat (first
   | exact RO.nil
   | (apply RO.op; rfl; (simp only [hb, hln, go_sem, get_nth, fieldAddrA, Nat.reduceDiv, Nat.reduceMod, Nat.reduceAdd, Nat.reduceSub, Nat.reduceEqDiff, Nat.reduceLeDiff, Nat.reduceLT, Nat.reduceMul, reduceIte, Nat.reducePow, Int.reduceEq, List.toList_toArray]; exact zL); rfl)
   | (apply RO.opg; exact zW; (intro h; (try simp only [Bool.and_eq_true, Bool.not_eq_true', Bool.not_eq_eq_eq_not, Bool.not_true] at h); simp only [h, hb, hln, go_sem, get_nth, fieldAddrA, Nat.reduceDiv, Nat.reduceMod, Nat.reduceAdd, Nat.reduceSub, Nat.reduceEqDiff, Nat.reduceLeDiff, Nat.reduceLT, Nat.reduceMul, reduceIte, Nat.reducePow, Int.reduceEq, List.toList_toArray]; exact zL); rfl)
   | (apply RO.call; exact want0 rfl; (simp only [hb, hln, go_sem, get_nth, fieldAddrA, Nat.reduceDiv, Nat.reduceMod, Nat.reduceAdd, Nat.reduceSub, Nat.reduceEqDiff, Nat.reduceLeDiff, Nat.reduceLT, Nat.reduceMul, reduceIte, Nat.reducePow, Int.reduceEq, List.toList_toArray]; rfl); fail; rfl)
   | (apply RO.callg; exact zW; (intro h; (try simp only [Bool.and_eq_true, Bool.not_eq_true', Bool.not_eq_eq_eq_not, Bool.not_true] at h); simp only [h, hb, hln, go_sem, get_nth, fieldAddrA, Nat.reduceDiv, Nat.reduceMod, Nat.reduceAdd, Nat.reduceSub, Nat.reduceEqDiff, Nat.reduceLeDiff, Nat.reduceLT, Nat.reduceMul, reduceIte, Nat.reducePow, Int.reduceEq, List.toList_toArray]; rfl); (intro h; (try simp only [Bool.and_eq_true, Bool.not_eq_true', Bool.not_eq_eq_eq_not, Bool.not_true] at h); fail); rfl)
   | (apply RO.no; apply wantNo; exact zW; (first | rfl | (focus (simp only [hb, hln, Bool.and_false, Bool.false_and, Bool.not_true, Bool.not_false, decide_true, decide_false, Bool.or_true, Bool.true_or, not_true_eq_false, not_false_eq_true, Bool.and_true, Bool.true_and]; done))); rfl))); done)))
   | (apply V.regd; (focus ((repeat (first
   | exact RO.nil
   | (apply RO.op; rfl; (simp only [hb, hln, go_sem, get_nth, fieldAddrA, Nat.reduceDiv, Nat.reduceMod, Nat.reduceAdd, Nat.reduceSub, Nat.reduceEqDiff, Nat.reduceLeDiff, Nat.reduceLT, Nat.reduceMul, reduceIte, Nat.reducePow, Int.reduceEq, List.toList_toArray]; exact zL); rfl)
   | (apply RO.opg; exact zW; (intro h; (try simp only [Bool.and_eq_true, Bool.not_eq_true', Bool.not_eq_eq_eq_not, Bool.not_true] at h); simp only [h, hb, hln, go_sem, get_nth, fieldAddrA, Nat.reduceDiv, Nat.reduceMod, Nat.reduceAdd, Nat.reduceSub, Nat.reduceEqDiff, Nat.reduceLeDiff, Nat.reduceLT, Nat.reduceMul, reduceIte, Nat.reducePow, Int.reduceEq, List.toList_toArray]; exact zL); rfl)
   | (apply RO.call; exact want0 rfl; (simp only [hb, hln, go_sem, get_nth, fieldAddrA, Nat.reduceDiv, Nat.reduceMod, Nat.reduceAdd, Nat.reduceSub, Nat.reduceEqDiff, Nat.reduceLeDiff, Nat.reduceLT, Nat.reduceMul, reduceIte, Nat.reducePow, Int.reduceEq, List.toList_toArray]; rfl); fail; rfl)
   | (apply RO.callg; exact zW; (intro h; (try simp only [Bool.and_eq_true, Bool.not_eq_true', Bool.not_eq_eq_eq_not, Bool.not_true] at h); simp only [h, hb, hln, go_sem, get_nth, fieldAddrA, Nat.reduceDiv, Nat.reduceMod, Nat.reduceAdd, Nat.reduceSub, Nat.reduceEqDiff, Nat.reduceLeDiff, Nat.reduceLT, Nat.reduceMul, reduceIte, Nat.reducePow, Int.reduceEq, List.toList_toArray]; rfl); (intro h; (try simp only [Bool.and_eq_true, Bool.not_eq_true', Bool.not_eq_eq_eq_not, Bool.not_true] at h); fail); rfl)
   | (apply RO.no; apply wantNo; exact zW; (first | rfl | (focus (simp only [hb, hln, Bool.and_false, Bool.false_and, Bool.not_true, Bool.not_false, decide_true, decide_false, Bool.or_true, Bool.true_or, not_true_eq_false, not_false_eq_true, Bool.and_true, Bool.true_and]; done))); rfl))); done)); exact zK; exact zE)
   | (refine zvf (fun h => ?_) (fun h => ?_) <;> (replace h := zB h) <;> (try (exfalso; first | exact h | omega)))
   | (refine zfc Tryz.results56 ?_; (try dsimp only)))
  · have e : put 0 t r = (0, t, some ⟨2, r, [], emptyB⟩) := by
      have : ctrlB r = true := decide_eq_true (by omega)
      simp [put, this]
    rw [e]
    exact ⟨(Turn.refl F H).push _, hP.keep growF (Nat.le_succ _) fun k hk hl => by rw [get_push, if_neg (by omega)], .new (grow_next (Nat.le_refl _) (Nat.lt_succ_self _)) _ _ _⟩
  · have e : put 0 t r = (1, t, none) := by
      subst h
      rfl
    rw [e]
    exact ⟨(Turn.refl F H).set n _ (.inl hP.own), hP.st 1 (.inr (.inl rfl)) growF, rfl⟩
  · have e : put 0 t r = (0, t, none) := by
      have h1 : ctrlB r = false := decide_eq_false (by omega)
      have h2 : ¬ (32 ≤ r ∧ r ≠ 127) := by omega
      have h3 : r ≠ 27 := by omega
      simp [put, h1, h2, h3]
    rw [e]
    exact ⟨Turn.refl F H, hP.keep growF (Nat.le_refl _) fun k hk hl => rfl, rfl⟩
  · have e : put 0 t r = (0, t, some ⟨1, r, [], emptyB⟩) := by
      have h1 : ctrlB r = false := decide_eq_false (by omega)
      have h2 : 32 ≤ r ∧ r ≠ 127 := by omega
      have h3 : r ≠ 27 := by omega
      simp [put, h1, h2, h3]
    rw [e]
    exact ⟨(Turn.refl F H).push _, hP.keep growF (Nat.le_succ _) fun k hk hl => by rw [get_push, if_neg (by omega)], .new (grow_next (Nat.le_refl _) (Nat.lt_succ_self _)) _ _ _⟩
theorem escapes_wc (hlo : ∀ k, F k → lo ≤ k) {A X : AV} {any sp : Bool} (hP : PP H F n w t A any sp X) (r : Int) : WC EZ ys lo 52 [.op n 0 0 0, .v (.int .i32 r)] H fun R H' => Turn F H H' ∧ ∃ A any sp X, PP H' (grow F H H') n (if r = 91 then 2 else if r = 93 then 3 else if r = 27 then 1 else 0) [] A any sp X := by
  have hb := hP.blk
  have hln := hlo n hP.own
  have hne : ¬ H.next = n := by have := hP.lt; omega
  unfold pBlk at hb
  refine zvin Tryz.func52 Tryz.ntmps52 ?_
  repeat' (first
   | apply V.sq
   | apply V.bl
   | apply V.sc
   | apply V.skip
   | apply V.label
   | apply V.ret
   | apply V.exit
   | apply SeqQ.normal
   | apply SeqQ.ret
   | apply SeqQ.exit
   | apply BlockQ.normal
   | apply BlockQ.ret
   | apply BlockQ.here
   | refine zbt ?_
   | apply LoopS.ret
   | apply LoopS.exit
   | apply LoopF.ret
   | apply LoopF.exit
   | (apply V.reg; (focus ((repeat (first
   | exact RO.nil
   | (apply RO.op; rfl; (simp only [hb, hln, hne, go_sem, get_nth, fieldAddrA, Nat.reduceDiv, Nat.reduceMod, Nat.reduceAdd, Nat.reduceSub, Nat.reduceEqDiff, Nat.reduceLeDiff, Nat.reduceLT, Nat.reduceMul, reduceIte, Nat.reducePow, Int.reduceEq, List.toList_toArray]; exact zL); rfl)
   | (apply RO.opg; exact zW; (intro h; (try simp only [Bool.and_eq_true, Bool.not_eq_true', Bool.not_eq_eq_eq_not, Bool.not_true] at h); simp only [h, hb, hln, hne, go_sem, get_nth, fieldAddrA, Nat.reduceDiv, Nat.reduceMod, Nat.reduceAdd, Nat.reduceSub, Nat.reduceEqDiff, Nat.reduceLeDiff, Nat.reduceLT, Nat.reduceMul, reduceIte, Nat.reducePow, Int.reduceEq, List.toList_toArray]; exact zL); rfl)
   | (apply RO.call; exact want0 rfl; (simp only [hb, hln, hne, go_sem, get_nth, fieldAddrA, Nat.reduceDiv, Nat.reduceMod, Nat.reduceAdd, Nat.reduceSub, Nat.reduceEqDiff, Nat.reduceLeDiff, Nat.reduceLT, Nat.reduceMul, reduceIte, Nat.reducePow, Int.reduceEq, List.toList_toArray]; rfl); fail; rfl)
   | (apply RO.callg; exact zW; (intro h; (try simp only [Bool.and_eq_true, Bool.not_eq_true', Bool.not_eq_eq_eq_not, Bool.not_true] at h); simp only [h, hb, hln, hne, go_sem, get_nth, fieldAddrA, Nat.reduceDiv, Nat.reduceMod, Nat.reduceAdd, Nat.reduceSub, Nat.reduceEqDiff, Nat.reduceLeDiff, Nat.reduceLT, Nat.reduceMul, reduceIte, Nat.reducePow, Int.reduceEq, List.toList_toArray]; rfl); (intro h; (try simp only [Bool.and_eq_true, Bool.not_eq_true', Bool.not_eq_eq_eq_not, Bool.not_true] at h); fail); rfl)
   | (apply RO.no; apply wantNo; exact zW; (first | rfl | (focus (simp only [hb, hln, hne, Bool.and_false, Bool.false_and, Bool.not_true, Bool.not_false, decide_true, decide_false, Bool.or_true, Bool.true_or, not_true_eq_false, not_false_eq_true, Bool.and_true, Bool.true_and]; done))); rfl))); done)))
   | (apply V.regd; (focus ((repeat (first
   | exact RO.nil
   | (apply RO.op; rfl; (simp only [hb, hln, hne, go_sem, get_nth, fieldAddrA, Nat.reduceDiv, Nat.reduceMod, Nat.reduceAdd, Nat.reduceSub, Nat.reduceEqDiff, Nat.reduceLeDiff, Nat.reduceLT, Nat.reduceMul, reduceIte, Nat.reducePow, Int.reduceEq, List.toList_toArray]; exact zL); rfl)
   | (apply RO.opg; exact zW; (intro h; (try simp only [Bool.and_eq_true, Bool.not_eq_true', Bool.not_eq_eq_eq_not, Bool.not_true] at h); simp only [h, hb, hln, hne, go_sem, get_nth, fieldAddrA, Nat.reduceDiv, Nat.reduceMod, Nat.reduceAdd, Nat.reduceSub, Nat.reduceEqDiff, Nat.reduceLeDiff, Nat.reduceLT, Nat.reduceMul, reduceIte, Nat.reducePow, Int.reduceEq, List.toList_toArray]; exact zL); rfl)
   | (apply RO.call; exact want0 rfl; (simp only [hb, hln, hne, go_sem, get_nth, fieldAddrA, Nat.reduceDiv, Nat.reduceMod, Nat.reduceAdd, Nat.reduceSub, Nat.reduceEqDiff, Nat.reduceLeDiff, Nat.reduceLT, Nat.reduceMul, reduceIte, Nat.reducePow, Int.reduceEq, List.toList_toArray]; rfl); fail; rfl)
   | (apply RO.callg; exact zW; (intro h; (try simp only [Bool.and_eq_true, Bool.not_eq_true', Bool.not_eq_eq_eq_not, Bool.not_true] at h); simp only [h, hb, hln, hne, go_sem, get_nth, fieldAddrA, Nat.reduceDiv, Nat.reduceMod, Nat.reduceAdd, Nat.reduceSub, Nat.reduceEqDiff, Nat.reduceLeDiff, Nat.reduceLT, Nat.reduceMul, reduceIte, Nat.reducePow, Int.reduceEq, List.toList_toArray]; rfl); (intro h; (try simp only [Bool.and_eq_true, Bool.not_eq_true', Bool.not_eq_eq_eq_not, Bool.not_true] at h); fail); rfl)
   | (apply RO.no; apply wantNo; exact zW; (first | rfl | (focus (simp only [hb, hln, hne, Bool.and_false, Bool.false_and, Bool.not_true, Bool.not_false, decide_true, decide_false, Bool.or_true, Bool.true_or, not_true_eq_false, not_false_eq_true, Bool.and_true, Bool.true_and]; done))); rfl))); done)); exact zK; exact zE)
   | (refine zvf (fun h => ?_) (fun h => ?_) <;> (replace h := zB h) <;> (try (exfalso; first | exact h | omega)))
   | (refine zfa Tryz.results52 ?_; (try dsimp only))
   | (refine zfb Tryz.results52 ?_; (try dsimp only)))
  · subst h
    rw [if_pos rfl]
    refine ⟨((Turn.refl F H).set n _ (.inl hP.own)).push _, .os H.next 0 0 1, false, false, X, .inl hP.own, Nat.lt_succ_of_lt hP.lt, by rw [get_push, next_set, if_neg hne, get_set, if_pos rfl], rfl, hP.cx, by simp, fun _ => ⟨.inr ⟨H.next, 0, rfl, .inr ⟨Nat.le_refl _, Nat.lt_succ_self _⟩, Nat.lt_succ_self _, by rw [get_push, next_set, if_pos rfl]; rfl⟩, rfl, by simp⟩, fun h => by simp at h⟩
  · subst h
    exact ⟨(Turn.refl F H).set n _ (.inl hP.own), _, _, _, _, .inl hP.own, hP.lt, by rw [get_set, if_pos rfl]; rfl, hP.ca, rfl, by simp, fun h => by simp at h, fun _ => ⟨by simp [utf8], fun _ => OwnS.nil⟩⟩
  · subst h
    rw [if_neg (by decide), if_neg (by decide), if_pos rfl]
    exact ⟨(Turn.refl F H).set n _ (.inl hP.own), _, _, _, _, hP.st 1 (.inr (.inl rfl)) growF⟩
  · rw [if_neg (by assumption), if_neg (by assumption), if_neg (by assumption)]
    exact ⟨(Turn.refl F H).set n _ (.inl hP.own), _, _, _, _, hP.st 0 (.inl rfl) growF⟩
theorem csiArgs_pos (t : List Int) : 0 < (csiArgs t).length := by
  suffices h : ∀ (a : List Int), 0 < a.length → 0 < (t.foldl stepArgs a).length from h [0] (by simp)
  induction t with
  | nil => intro a h; exact h
  | cons c t ih =>
    intro a h
    refine ih _ ?_
    unfold stepArgs
    split
    · simp
    · split
      · rw [List.length_set]; exact h
      · exact h
theorem csiArgs_len (t : List Int) : (csiArgs t).length ≤ t.length + 1 := by
  suffices h : ∀ (a : List Int), (t.foldl stepArgs a).length ≤ t.length + a.length from h [0]
  induction t with
  | nil => intro a; simp
  | cons c t ih =>
    intro a
    refine Nat.le_trans (ih _) ?_
    unfold stepArgs
    split
    · simp; omega
    · split
      · rw [List.length_set]; simp
      · simp
theorem csiArgs_bd (t : List Int) : ∀ x ∈ csiArgs t, 0 ≤ x ∧ x ≤ 9999 := by
  suffices h : ∀ (a : List Int), (∀ x ∈ a, 0 ≤ x ∧ x ≤ 9999) → ∀ x ∈ t.foldl stepArgs a, 0 ≤ x ∧ x ≤ 9999 from h [0] (by simp)
  induction t with
  | nil => intro a h; exact h
  | cons c t ih =>
    intro a h
    refine ih _ ?_
    unfold stepArgs
    have hg : 0 ≤ a.getD (a.length - 1) 0 := by
      rw [List.getD_eq_getElem?_getD]
      cases hx : a[a.length - 1]? with
      | none => simp
      | some y => exact (h y (List.mem_of_getElem? hx)).1
    split
    · intro x hx
      rcases List.mem_append.1 hx with hx | hx
      · exact h x hx
      · simp at hx; omega
    · split
      · intro x hx
        rcases List.mem_or_eq_of_mem_set hx with hx | rfl
        · exact h x hx
        · omega
      · exact h
theorem csiArgs_snoc (t : List Int) (c : Int) : csiArgs (t ++ [c]) = stepArgs (csiArgs t) c := by simp [csiArgs]
theorem put_two (t : List Int) (r : Int) : put 2 t r = if r = 27 then (1, t, none) else if r < 32 then (0, t, none) else if 64 ≤ r ∧ r ≤ 126 then (0, t, csiEv t r) else (2, t ++ [r], none) := by
  unfold put
  rw [if_neg (by omega), if_neg (by omega), if_neg (by omega), if_pos rfl]
theorem csis_wc (hlo : ∀ k, F k → lo ≤ k) {A X : AV} {any sp : Bool} (hP : PP H F n 2 t A any sp X) (r : Int) (hr : -2147483648 ≤ r ∧ r ≤ 2147483647) (ht : t.length < 2 ^ 20) : WC EZ ys lo 53 [.op n 0 0 0, .v (.int .i32 r)] H fun R H' => Turn F H H' ∧ (∃ A any sp X, PP H' (grow F H H') n (put 2 t r).1 (put 2 t r).2.1 A any sp X) ∧ EvR H' (grow F H H') R (put 2 t r).2.2 := by
  obtain ⟨hA, h2, h3⟩ := hP.csi rfl
  have hb := hP.blk
  have hln := hlo n hP.own
  have hne : ¬ H.next = n := by have := hP.lt; omega
  have hpos := csiArgs_pos t
  rcases hA with ⟨h0, _⟩ | ⟨m, e, rfl, hFm, hml, hm⟩
  · have : (csiArgs t).length = 0 := by simpa [ints] using h0
    omega
  have hlm := hlo m hFm
  have hmn : ¬ m = n := by rintro rfl; rw [hb] at hm; simp [pBlk] at hm
  have hnm : ¬ n = m := fun h => hmn h.symm
  have hmx : ¬ H.next = m := by omega
  unfold pBlk at hb
  have hlen := csiArgs_len t
  have hw : IntKind.i64.wrap (((csiArgs t).length : Int) - 1) = (((csiArgs t).length - 1 : Nat) : Int) := by rw [IntWalk.i64_in _ (by omega)]; omega
  have hL : (csiArgs t).length - 1 < (csiArgs t).length := by omega
  have hL' : (((csiArgs t).length - 1 : Nat) : Int) < ((csiArgs t).length : Int) := by omega
  rw [ints_len] at hb hP
  have hlx : lo ≤ H.next := by omega
  have hSm : ∀ b, SlH (H.set n b) 1 (.os m e 0 (csiArgs t).length) (ints (csiArgs t)) := fun b => .inr ⟨m, e, 0, _, by rw [ints_len], hml, by rw [get_set, if_neg hnm]; exact hm, rfl, rfl, rfl, by simp, by simp⟩
  obtain ⟨tr, htr⟩ := append_os EZ lo (t := 25) (H := (H.set n (pBlk 2 (.os m e 0 (csiArgs t).length) true sp X)).push ⟨3, 1, 0, [[.v (.int .i64 0)]], none⟩) (n := m) (e := e) (off := 0) (len := (csiArgs t).length) (x := .os H.next 0 0 1) (es := [[.v (.int .i64 0)]]) (elem := 3) (bytes := 8) (size := 1)
    (by kernel_rfl) (by rw [get_push, next_set, if_neg hmx, get_set, if_neg hnm]; exact hm) ⟨rfl, rfl, by rw [ints_len]; simp, rfl, rfl⟩ (.inr ⟨H.next, 0, 0, _, rfl, Nat.lt_succ_self _, by rw [get_push, next_set, if_pos rfl], rfl, rfl, rfl, by simp, rfl⟩) (fun m' e' off' len' h => by cases h; exact hmx ∘ Eq.symm) (by simp) (by show ((csiArgs t).length + 1) * 8 ≤ 140737488355328; omega) hlm
  have hsl := fun b => slice_SlH EZ lo (t := 25) (size := 1) (by kernel_rfl) ((hSm (pBlk 0 (.os m e 0 (csiArgs t).length) any sp X)).push b) none (some (.v (.int .i64 (min ((csiArgs t).length : Int) 8)))) (l := 0) (r := min (csiArgs t).length 8) rfl (by rw [bound_some _ _ _ (by omega)]; congr 1; omega) (Nat.zero_le _) (by rw [ints_len]; omega)
  refine zvin Tryz.func53 Tryz.ntmps53 ?_
  repeat' (first
   | apply V.sq
   | apply V.bl
   | apply V.sc
   | apply V.skip
   | apply V.label
   | apply V.ret
   | apply V.exit
   | apply SeqQ.normal
   | apply SeqQ.ret
   | apply SeqQ.exit
   | apply BlockQ.normal
   | apply BlockQ.ret
   | apply BlockQ.here
   | refine zbt ?_
   | apply LoopS.ret
   | apply LoopS.exit
   | apply LoopF.ret
   | apply LoopF.exit
   | (apply V.reg; (focus ((repeat (first
   | exact RO.nil
   | (apply RO.op; rfl; (simp only [hb, hm, hln, hlm, hlx, hne, hmn, hnm, hmx, ints_len, take_ints, hw, hL, hL', nth_ints _ _ hL, htr, hsl, go_sem, get_nth, fieldAddrA, Nat.reduceDiv, Nat.reduceMod, Nat.reduceAdd, Nat.reduceSub, Nat.reduceEqDiff, Nat.reduceLeDiff, Nat.reduceLT, Nat.reduceMul, reduceIte, Nat.reducePow, Int.reduceEq, List.toList_toArray]; exact zL); rfl)
   | (apply RO.opg; exact zW; (intro h; (try simp only [Bool.and_eq_true, Bool.not_eq_true', Bool.not_eq_eq_eq_not, Bool.not_true] at h); simp only [h, hb, hm, hln, hlm, hlx, hne, hmn, hnm, hmx, ints_len, take_ints, hw, hL, hL', nth_ints _ _ hL, htr, hsl, go_sem, get_nth, fieldAddrA, Nat.reduceDiv, Nat.reduceMod, Nat.reduceAdd, Nat.reduceSub, Nat.reduceEqDiff, Nat.reduceLeDiff, Nat.reduceLT, Nat.reduceMul, reduceIte, Nat.reducePow, Int.reduceEq, List.toList_toArray]; exact zL); rfl)
   | (apply RO.call; exact want0 rfl; (simp only [hb, hm, hln, hlm, hlx, hne, hmn, hnm, hmx, ints_len, take_ints, hw, hL, hL', nth_ints _ _ hL, htr, hsl, go_sem, get_nth, fieldAddrA, Nat.reduceDiv, Nat.reduceMod, Nat.reduceAdd, Nat.reduceSub, Nat.reduceEqDiff, Nat.reduceLeDiff, Nat.reduceLT, Nat.reduceMul, reduceIte, Nat.reducePow, Int.reduceEq, List.toList_toArray]; rfl); fail; rfl)
   | (apply RO.callg; exact zW; (intro h; (try simp only [Bool.and_eq_true, Bool.not_eq_true', Bool.not_eq_eq_eq_not, Bool.not_true] at h); simp only [h, hb, hm, hln, hlm, hlx, hne, hmn, hnm, hmx, ints_len, take_ints, hw, hL, hL', nth_ints _ _ hL, htr, hsl, go_sem, get_nth, fieldAddrA, Nat.reduceDiv, Nat.reduceMod, Nat.reduceAdd, Nat.reduceSub, Nat.reduceEqDiff, Nat.reduceLeDiff, Nat.reduceLT, Nat.reduceMul, reduceIte, Nat.reducePow, Int.reduceEq, List.toList_toArray]; rfl); (intro h; (try simp only [Bool.and_eq_true, Bool.not_eq_true', Bool.not_eq_eq_eq_not, Bool.not_true] at h); fail); rfl)
   | (apply RO.no; apply wantNo; exact zW; (first | rfl | (focus (simp only [hb, hm, hln, hlm, hlx, hne, hmn, hnm, hmx, ints_len, take_ints, hw, hL, hL', nth_ints _ _ hL, htr, hsl, Bool.and_false, Bool.false_and, Bool.not_true, Bool.not_false, decide_true, decide_false, Bool.or_true, Bool.true_or, not_true_eq_false, not_false_eq_true, Bool.and_true, Bool.true_and]; done))); rfl))); done)))
   | (apply V.regd; (focus ((repeat (first
   | exact RO.nil
   | (apply RO.op; rfl; (simp only [hb, hm, hln, hlm, hlx, hne, hmn, hnm, hmx, ints_len, take_ints, hw, hL, hL', nth_ints _ _ hL, htr, hsl, go_sem, get_nth, fieldAddrA, Nat.reduceDiv, Nat.reduceMod, Nat.reduceAdd, Nat.reduceSub, Nat.reduceEqDiff, Nat.reduceLeDiff, Nat.reduceLT, Nat.reduceMul, reduceIte, Nat.reducePow, Int.reduceEq, List.toList_toArray]; exact zL); rfl)
   | (apply RO.opg; exact zW; (intro h; (try simp only [Bool.and_eq_true, Bool.not_eq_true', Bool.not_eq_eq_eq_not, Bool.not_true] at h); simp only [h, hb, hm, hln, hlm, hlx, hne, hmn, hnm, hmx, ints_len, take_ints, hw, hL, hL', nth_ints _ _ hL, htr, hsl, go_sem, get_nth, fieldAddrA, Nat.reduceDiv, Nat.reduceMod, Nat.reduceAdd, Nat.reduceSub, Nat.reduceEqDiff, Nat.reduceLeDiff, Nat.reduceLT, Nat.reduceMul, reduceIte, Nat.reducePow, Int.reduceEq, List.toList_toArray]; exact zL); rfl)
   | (apply RO.call; exact want0 rfl; (simp only [hb, hm, hln, hlm, hlx, hne, hmn, hnm, hmx, ints_len, take_ints, hw, hL, hL', nth_ints _ _ hL, htr, hsl, go_sem, get_nth, fieldAddrA, Nat.reduceDiv, Nat.reduceMod, Nat.reduceAdd, Nat.reduceSub, Nat.reduceEqDiff, Nat.reduceLeDiff, Nat.reduceLT, Nat.reduceMul, reduceIte, Nat.reducePow, Int.reduceEq, List.toList_toArray]; rfl); fail; rfl)
   | (apply RO.callg; exact zW; (intro h; (try simp only [Bool.and_eq_true, Bool.not_eq_true', Bool.not_eq_eq_eq_not, Bool.not_true] at h); simp only [h, hb, hm, hln, hlm, hlx, hne, hmn, hnm, hmx, ints_len, take_ints, hw, hL, hL', nth_ints _ _ hL, htr, hsl, go_sem, get_nth, fieldAddrA, Nat.reduceDiv, Nat.reduceMod, Nat.reduceAdd, Nat.reduceSub, Nat.reduceEqDiff, Nat.reduceLeDiff, Nat.reduceLT, Nat.reduceMul, reduceIte, Nat.reducePow, Int.reduceEq, List.toList_toArray]; rfl); (intro h; (try simp only [Bool.and_eq_true, Bool.not_eq_true', Bool.not_eq_eq_eq_not, Bool.not_true] at h); fail); rfl)
   | (apply RO.no; apply wantNo; exact zW; (first | rfl | (focus (simp only [hb, hm, hln, hlm, hlx, hne, hmn, hnm, hmx, ints_len, take_ints, hw, hL, hL', nth_ints _ _ hL, htr, hsl, Bool.and_false, Bool.false_and, Bool.not_true, Bool.not_false, decide_true, decide_false, Bool.or_true, Bool.true_or, not_true_eq_false, not_false_eq_true, Bool.and_true, Bool.true_and]; done))); rfl))); done)); exact zK; exact zE)
   | (refine zvf (fun h => ?_) (fun h => ?_) <;> (replace h := zB h) <;> (try (exfalso; first | exact h | omega)))
   | (refine zfc Tryz.results53 ?_; (try dsimp only)))
  · have hg : 0 ≤ (csiArgs t).getD ((csiArgs t).length - 1) 0 ∧ (csiArgs t).getD ((csiArgs t).length - 1) 0 ≤ 9999 := by
      rw [List.getD_eq_getElem?_getD, List.getElem?_eq_getElem hL]
      exact csiArgs_bd t _ (List.getElem_mem hL)
    have hv : min (IntKind.i64.wrap (IntKind.i64.wrap (10 * (csiArgs t).getD ((csiArgs t).length - 1) 0) + IntKind.i64.wrap (IntKind.i32.wrap (r - 48)))) 9999 = min (10 * (csiArgs t).getD ((csiArgs t).length - 1) 0 + (r - 48)) 9999 := by
      rw [IntWalk.i64_in (10 * _) (by omega), IntWalk.i32_in (r - 48) (by omega), IntWalk.i64_in (r - 48) (by omega), IntWalk.i64_in _ (by omega)]
    rw [hv, set_ints]
    have hs : csiArgs (t ++ [r]) = (csiArgs t).set ((csiArgs t).length - 1) (min (10 * (csiArgs t).getD ((csiArgs t).length - 1) 0 + (r - 48)) 9999) := by
      rw [csiArgs_snoc, stepArgs, if_neg (by omega), if_pos (by omega)]
    have e1 : put 2 t r = (2, t ++ [r], none) := by
      rw [put_two, if_neg (by omega), if_neg (by omega), if_neg (by omega)]
    have hvc : validC r = true := decide_eq_true (by omega)
    rw [e1]
    refine ⟨((Turn.refl F H).set n _ (.inl hP.own)).set m _ (.inl hFm), ⟨.os m e 0 (csiArgs t).length, true, sp, X, .inl hP.own, hP.lt, by simp [get_set, hmn], rfl, hP.cx, by simp, fun _ => ⟨.inr ⟨m, e, by rw [hs, ints_len, List.length_set], .inl hFm, hml, by rw [hs, get_set, if_pos rfl]⟩, by rw [h2]; simp [hvc], by simp [hvc]⟩, fun h => by omega⟩, rfl⟩
  · have hs : csiArgs (t ++ [r]) = csiArgs t ++ [0] := by
      rw [csiArgs_snoc, stepArgs, if_pos (by omega)]
    have e1 : put 2 t r = (2, t ++ [r], none) := by
      rw [put_two, if_neg (by omega), if_neg (by omega), if_neg (by omega)]
    have hvc : validC r = true := decide_eq_true (by omega)
    rw [e1]
    refine ⟨((((Turn.refl F H).set n _ (.inl hP.own)).set m _ (.inl hFm)).set n _ (.inl hP.own)).push _, ⟨.os m (e + 1) 0 ((csiArgs t).length + 1), true, sp, X, .inl hP.own, Nat.lt_succ_of_lt hP.lt, by simp [get_set, get_push, next_set, hne], rfl, hP.cx, by simp, fun _ => ⟨.inr ⟨m, e + 1, by rw [hs, ints_len, List.length_append]; rfl, .inl hFm, Nat.lt_succ_of_lt hml, by rw [hs, ints_append]; simp [get_set, get_push, next_set, hmx, hnm, ints]⟩, by rw [h2]; simp [hvc], by simp [hvc]⟩, fun h => by omega⟩, rfl⟩
  · have hsp : t.all validC = false := by rw [h] at h2; simpa using h2.symm
    have e1 : put 2 t r = (0, t, none) := by
      rw [put_two, if_neg (by omega), if_neg (by omega), if_pos (by omega), csiEv, hsp]; rfl
    rw [e1]
    exact ⟨(Turn.refl F H).set n _ (.inl hP.own), ⟨_, _, _, _, hP.st 0 (.inl rfl) growF⟩, rfl⟩
  · have hsp : t.all validC = true := by
      have : sp = false := by assumption
      rw [this] at h2; simpa using h2.symm
    have hnn : t ≠ [] := by
      rintro rfl
      have := h3.1 (by assumption)
      simp at this
    have e1 : put 2 t r = (0, t, some ⟨3, r, (csiArgs t).take 8, emptyB⟩) := by
      rw [put_two, if_neg (by omega), if_neg (by omega), if_pos (by omega), csiEv, hsp, if_pos rfl, if_neg hnn]
    rw [e1]
    have hk := (hP.st 0 (.inl rfl) (fun k (h : F k) => h) : PP _ F n 0 t _ any sp X)
    refine ⟨(((Turn.refl F H).set n _ (.inl hP.own)).push _).push _, ⟨_, _, _, _, hk.keep growF (by simp [next_push, next_set]; omega) (fun k hk hl => by
      rw [next_set] at hl
      rw [get_push, get_push, next_push, next_set, if_neg (by omega), if_neg (by omega)])⟩, ?_⟩
    have hc := cutA_SlH (hSm (pBlk 0 (.os m e 0 (csiArgs t).length) any sp X)) (Nat.zero_le (min (csiArgs t).length 8)) (by rw [ints_len]; omega)
    refine ⟨H.next + 1, cutA (.os m e 0 (csiArgs t).length) 0 (min (csiArgs t).length 8), rfl, .inr ⟨Nat.le_succ _, Nat.lt_succ_self _⟩, Nat.lt_succ_self _, by simp [get_push, next_push, next_set]; rfl, ?_, fun m' e' off len hx => ?_⟩
    · have e2 : ints ((csiArgs t).take 8) = ((ints (csiArgs t)).drop 0).take (min (csiArgs t).length 8 - 0) := by
        simp only [ints, List.drop_zero, Nat.sub_zero, ← List.map_take]
        congr 1
        rw [Nat.min_comm, ← List.take_eq_take_min]
      rw [e2]
      exact (hc.push _).push _
    · cases hx; exact .inl hFm
  · have hsp : t.all validC = true := by
      have : sp = false := by assumption
      rw [this] at h2; simpa using h2.symm
    have hnn : t = [] := by
      cases t with
      | nil => rfl
      | cons c t =>
        have : any = true := h3.2 ⟨c, List.mem_cons_self, by simpa using (List.all_eq_true.1 hsp) c List.mem_cons_self⟩
        rw [this] at h; cases h
    have e1 : put 2 t r = (0, t, some ⟨3, r, [], emptyB⟩) := by
      rw [put_two, if_neg (by omega), if_neg (by omega), if_pos (by omega), csiEv, hsp, if_pos rfl, if_pos hnn]
    rw [e1]
    have hk := (hP.st 0 (.inl rfl) (fun k (h : F k) => h) : PP _ F n 0 t _ any sp X)
    refine ⟨(((Turn.refl F H).set n _ (.inl hP.own)).push _).push _, ⟨_, _, _, _, hk.keep growF (by simp [next_push, next_set]; omega) (fun k hk hl => by
      rw [next_set] at hl
      rw [get_push, get_push, next_push, next_set, if_neg (by omega), if_neg (by omega)])⟩, ?_⟩
    exact ⟨H.next + 1, _, rfl, .inr ⟨Nat.le_succ _, Nat.lt_succ_self _⟩, Nat.lt_succ_self _, by simp [get_push, next_push, next_set]; rfl, .inl (.inr ⟨rfl, .inr rfl⟩), fun m' e' off len hx => by cases hx⟩
  · have e1 : put 2 t r = (1, t, none) := by
      rw [put_two, if_pos (by omega)]
    rw [e1]
    exact ⟨(Turn.refl F H).set n _ (.inl hP.own), ⟨_, _, _, _, hP.st 1 (.inr (.inl rfl)) growF⟩, rfl⟩
  · have e1 : put 2 t r = (0, t, none) := by
      rw [put_two, if_neg (by omega), if_pos (by omega)]
    rw [e1]
    exact ⟨(Turn.refl F H).set n _ (.inl hP.own), ⟨_, _, _, _, hP.st 0 (.inl rfl) growF⟩, rfl⟩
  · have e1 : put 2 t r = (2, t ++ [r], none) := by
      rw [put_two, if_neg (by omega), if_neg (by omega), if_neg (by omega)]
    have hvc : validC r = false := decide_eq_false (by omega)
    have hs : csiArgs (t ++ [r]) = csiArgs t := by rw [csiArgs_snoc, stepArgs, if_neg (by omega), if_neg (by omega)]
    rw [e1]
    refine ⟨(Turn.refl F H).set n _ (.inl hP.own), ⟨.os m e 0 (csiArgs t).length, any, true, X, .inl hP.own, hP.lt, by simp [get_set], rfl, hP.cx, by simp, fun _ => ⟨.inr ⟨m, e, by rw [hs, ints_len], .inl hFm, hml, by rw [hs, get_set, if_neg hnm]; exact hm⟩, by simp [hvc], by simp [hvc, h3]⟩, fun h => by omega⟩, rfl⟩
end
end Go.Am
