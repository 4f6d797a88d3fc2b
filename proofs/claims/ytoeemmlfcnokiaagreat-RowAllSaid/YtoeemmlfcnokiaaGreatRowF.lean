/- Cells and rows: what is compared, copied, told. -/
import Derived.Test.YtoeemmlfcnokiaaGreatRowE
import Derived.Test.YtoeemmlfcnokiaaGreatRowP
set_option linter.all false
set_option linter.deprecated false
namespace Go.Am
open Go.Proofs
set_option maxRecDepth 8000
set_option maxHeartbeats 4000000
/-- A row's value. -/
abbrev rowA (A : AV) (wr : Bool) : AV := .agg [A, .v (.bool wr)]
def ofC (r a : Int) : List Ce := if widthI r = 0 ∨ a < 0 ∨ 255 < a then [] else if widthI r = 2 then [⟨r, 2, a⟩, ⟨0, 0, a⟩] else [⟨r, 1, a⟩]
theorem ofA_Sl (r a : Int) : Sl 3 (ofA r a) (cesA (ofC r a)) := by
  by_cases h : widthI r = 0 ∨ a < 0 ∨ 255 < a
  · rw [ofA_nil h, ofC, if_pos h]; exact .inr ⟨rfl, .inr rfl⟩
  · by_cases h2 : widthI r = 2
    · rw [ofA_2 h h2, ofC, if_neg h, if_pos h2]; exact .inl rfl
    · rw [ofA_1 h h2, ofC, if_neg h, if_neg h2]; exact .inl rfl
/-- A sign's cells, or a pad. -/
def signI (new : List Ce) : Prop := (new.length = 1 ∧ (new.getD 0 zeroC).w = 1 ∧ mayC (new.getD 0 zeroC).r (new.getD 0 zeroC).w (new.getD 0 zeroC).a) ∨ (new.length = 2 ∧ (new.getD 0 zeroC).w = 2 ∧ mayC (new.getD 0 zeroC).r (new.getD 0 zeroC).w (new.getD 0 zeroC).a ∧ new.getD 1 zeroC = ⟨0, 0, (new.getD 0 zeroC).a⟩)
instance (new : List Ce) : Decidable (signI new) := inferInstanceAs (Decidable (_ ∨ _))
theorem signI_G {new : List Ce} (h : signI new) : signG new := by
  rcases h with ⟨h1, h2, h3⟩ | ⟨h1, h2, h3, h4⟩
  · match new, h1 with
    | [c], _ => exact .inl ⟨c, rfl, h2, h3⟩
  · match new, h1 with
    | [c, d], _ =>
      have : d = ⟨0, 0, c.a⟩ := h4
      subst this
      exact .inr ⟨c, rfl, h2, h3⟩
theorem signI_of (c : Ce) (t : List Ce) : (c :: t = ofC c.r c.a ∨ (t = [] ∧ c = padC)) ↔ signI (c :: t) := by
  have hw := widthI_range c.r
  obtain ⟨r, w, a⟩ := c
  simp only [ofC, signI, List.getD_cons_zero, List.length_cons, mayC]
  simp only at hw
  constructor
  · rintro (h | ⟨rfl, h⟩)
    · split at h
      · cases h
      · split at h
        · simp only [List.cons.injEq, Ce.mk.injEq] at h
          obtain ⟨⟨_, rfl, _⟩, rfl⟩ := h
          refine .inr ⟨rfl, rfl, ⟨by omega, .inr (.inr ⟨.inr rfl, by omega⟩)⟩, rfl⟩
        · simp only [List.cons.injEq, Ce.mk.injEq] at h
          obtain ⟨⟨_, rfl, _⟩, rfl⟩ := h
          refine .inl ⟨rfl, rfl, ⟨by omega, .inr (.inr ⟨.inl rfl, by omega⟩)⟩⟩
    · cases h
      exact .inl ⟨rfl, rfl, by decide, .inl ⟨rfl, rfl, rfl⟩⟩
  · rintro (⟨h1, h2, h3, h4⟩ | ⟨h1, h2, ⟨h3, h4⟩, h5⟩)
    · have ht : t = [] := List.eq_nil_of_length_eq_zero (by omega)
      subst ht h2
      rcases h4 with ⟨rfl, _, rfl⟩ | ⟨h, _⟩ | ⟨_, h⟩
      · exact .inr ⟨rfl, rfl⟩
      · cases h
      · left; rw [if_neg (by omega), if_neg (by omega)]
    · subst h2
      rw [if_neg (by omega), if_pos (by omega)]
      match t, h1 with
      | [d], _ =>
        left
        have : d = ⟨0, 0, a⟩ := h5
        rw [this]
/-- Cells written over others, one by one. -/
def setN (l : List Ce) (col : Nat) (new : List Ce) : Nat → List Ce
  | 0 => l
  | i + 1 => (setN l col new i).set (col + i) (new.getD i zeroC)
theorem setN_len (l : List Ce) (col : Nat) (new : List Ce) (i : Nat) : (setN l col new i).length = l.length := by
  induction i with
  | zero => rfl
  | succ i ih => simp [setN, ih]
theorem setN_at (l : List Ce) (col : Nat) (new : List Ce) (i j : Nat) (hj : j < l.length) : (setN l col new i).getD j zeroC = if col ≤ j ∧ j < col + i then new.getD (j - col) zeroC else l.getD j zeroC := by
  induction i with
  | zero => rw [if_neg (by omega)]; rfl
  | succ i ih =>
    simp only [setN]
    rw [ce_set, setN_len, ih]
    by_cases h : col + i = j
    · rw [if_pos ⟨h, hj⟩, if_pos (by omega), show j - col = i by omega]
    · rw [if_neg (fun e => h e.1)]
      by_cases h2 : col ≤ j ∧ j < col + i
      · rw [if_pos h2, if_pos (by omega)]
      · rw [if_neg h2, if_neg (by omega)]
theorem setN_splice (l : List Ce) (col : Nat) (new : List Ce) : setN l col new new.length = splice l col new := by
  refine ce_ext (by rw [setN_len, splice_len]) fun j hj => ?_
  rw [setN_len] at hj
  rw [setN_at _ _ _ _ _ hj, splice_at _ _ _ _ hj]
/-- A block of cells. -/
abbrev cblk (e : Nat) (l : List Ce) : Blk := ⟨61, 3, e, cesA l, none⟩
abbrev rblk (A : AV) (wr : Bool) : Blk := ⟨47, 2, 0, [[A, .v (.bool wr)]], none⟩
theorem st_cell (lo : Nat) {H : AHeap} {n e i : Nat} {l : List Ce} (hg : H.get n = some (cblk e l)) (hlo : lo ≤ n) (r w a : Int) (hi : i < l.length) : primL lo H (storeA EZ 61 (.op n e i 0) (.agg [.v (.int .i32 r), .v (.int .i64 w), .v (.int .i64 a)])) = some (.tup [], H.set n (cblk e (l.set i ⟨r, w, a⟩)), ⟨bitsOf [n], 2 ^ n, 0⟩) := by
  have h3 : infoSize EZ.P 61 = some 3 := by kernel_rfl
  rw [storeA_op, cells_agg]
  simp only [Option.bind_some, h3, hg]
  have e : cesA (l.set i ⟨r, w, a⟩) = (cesA l).set i (ceA ⟨r, w, a⟩) := List.map_set
  rw [if_pos (by simpa [hlo] using hi), nth_cesA l i hi, cblk, e]; rfl
theorem take_ne {l : List Ce} {k : Nat} (h0 : 0 < k) (h : k ≤ l.length) : cesA (l.take k) ≠ [] := by
  intro e
  have := congrArg List.length e
  rw [ces_len, List.length_take, Nat.min_eq_left h] at this
  simp at this; omega
section
variable {ys : List (Nat × LRec)} {lo : Nat} {H : AHeap} {A B : AV} {l m : List Ce} {wr wr' : Bool}
theorem refTrim_run (hA : SlH H 3 A (cesA l)) (hl : l.length < 2 ^ 40) : CallRoE EZ ys lo 72 [A] H fun x => Sl 3 x (cesA (trimL l)) := by
  refine WC.pureE rfl fun lo' H' hh => ?_
  have hA' := hA.two (.inr ⟨[], .inr (by simp)⟩) hh
  have hlo := lo_two hh
  refine WC.enter Tryz.func72 rfl (Nat.le_of_ble_eq_true rfl) (by simp only [Slots.of, Tryz.ntmps72, Nat.reduceAdd, Nat.reduceDiv, rows8P, row8]; rfl) ?_
  repeat' (first
   | (apply RK.free; rfl)
   | (apply RKy.pl; ((try simp only [go_sem, Nat.reduceDiv, Nat.reduceMod, Nat.reduceAdd, Nat.reduceSub, Nat.reduceEqDiff, Nat.reduceLeDiff, Nat.reduceLT, Nat.reduceMul, reduceIte, Nat.reducePow, Int.reduceEq]); rfl))
   | (apply RKp.op; ((try simp (disch := (first | omega | ((repeat (first | exact Ext.refl _ | assumption | apply Ext.push | (refine Ext.set ?_ (by (first | omega | (simp only [next_push, next_set, next_empty]; done) | (simp only [next_push, next_set, next_empty]; omega))) _))); done) | fail)) only [len_cell _ hA', go_sem, Nat.reduceDiv, Nat.reduceMod, Nat.reduceAdd, Nat.reduceSub, Nat.reduceEqDiff, Nat.reduceLeDiff, Nat.reduceLT, Nat.reduceMul, reduceIte, Nat.reducePow, Int.reduceEq]); (first | rfl | (apply ite_ok; (first | assumption | rfl | omega | (refine ⟨?_, ?_⟩ <;> omega)); rfl))); rfl)
   | (apply RK.guard; rfl; rfl; (simp only [Nat.reduceDiv, Nat.reduceMod, get_nthS, nthS_zero, nthS_succ]; rfl))
   | apply RKg.tt
   | apply RKg.ff
   | (apply RKg.tf; rfl)
   | (apply RKg.ft; rfl)
   | (apply RKg.u; rfl)
   | ((fail_if_success (first | apply RKg.tt | apply RKg.ff | apply RKg.tf | apply RKg.ft | apply RKg.u)); refine RKg.split (fun h => ?_) (fun h => ?_) <;> (try rw [h]) <;> (try simp only [decide_eq_true_eq, decide_eq_false_iff_not, Bool.and_eq_true, Bool.or_eq_true, Bool.and_eq_false_iff, Bool.or_eq_false_iff, Bool.not_eq_true', Bool.not_eq_false', Bool.not_true, Bool.not_false, Classical.not_not, Int.not_lt, Int.not_le, reduceCtorEq, not_true_eq_false, not_false_eq_true, decide_true, decide_false, Int.reduceEq, Int.reduceLT, Int.reduceLE] at h) <;> (try (exfalso; omega)))
   | apply RK.nil
   | apply V.sq
   | apply V.bl
   | apply V.sc
   | apply V.skip
   | apply V.label
   | apply V.ret
   | apply V.exit
   | apply SeqQ.normal
   | apply SeqQ.ret
   | apply SeqQ.exit
   | apply BlockQ.normal
   | apply BlockQ.ret
   | apply BlockQ.here
   | (apply BlockQ.there; decide)
   | apply LoopS.ret
   | apply LoopS.exit
   | apply LoopF.ret
   | apply LoopF.exit
   | apply V.regK
    | (refine V.regdK (by kernel_rfl) ?_)
   | (refine DrawK.mk ?_ ?_; (focus (simp only [List.reverse_cons, List.reverse_nil, List.nil_append, List.cons_append]; decide +kernel)))
   | (apply DrawK.k3; (simp only [List.reverse_cons, List.reverse_nil, List.nil_append, List.cons_append]; rfl); (focus ((repeat (first | exact Kinds3.nil | apply Kinds3.z | (apply Kinds3.ro; (focus ((first | exact bits0 | (refine bits1 ?_; (first | omega | (simp only [next_push, next_set, next_empty]; done) | (simp only [next_push, next_set, next_empty]; omega))) | (refine rd_lt hA' _ ?_; (first | omega | (simp only [next_push, next_set, next_empty]; done) | (simp only [next_push, next_set, next_empty]; omega))) | (refine rd_lt hB' _ ?_; (first | omega | (simp only [next_push, next_set, next_empty]; done) | (simp only [next_push, next_set, next_empty]; omega))) | (refine rd_lt hC' _ ?_; (first | omega | (simp only [next_push, next_set, next_empty]; done) | (simp only [next_push, next_set, next_empty]; omega)))); done))) | (apply Kinds3.rd; (focus ((first | exact bits0 | (refine bits1 ?_; (first | omega | (simp only [next_push, next_set, next_empty]; done) | (simp only [next_push, next_set, next_empty]; omega))) | (refine rd_lt hA' _ ?_; (first | omega | (simp only [next_push, next_set, next_empty]; done) | (simp only [next_push, next_set, next_empty]; omega))) | (refine rd_lt hB' _ ?_; (first | omega | (simp only [next_push, next_set, next_empty]; done) | (simp only [next_push, next_set, next_empty]; omega))) | (refine rd_lt hC' _ ?_; (first | omega | (simp only [next_push, next_set, next_empty]; done) | (simp only [next_push, next_set, next_empty]; omega)))); done))) | (apply Kinds3.nw 0; (focus (first | omega | (simp only [next_push, next_set, next_empty]; done) | (simp only [next_push, next_set, next_empty]; omega))); (focus ((first | exact bits0 | (refine bits1 ?_; (first | omega | (simp only [next_push, next_set, next_empty]; done) | (simp only [next_push, next_set, next_empty]; omega))) | (refine rd_lt hA' _ ?_; (first | omega | (simp only [next_push, next_set, next_empty]; done) | (simp only [next_push, next_set, next_empty]; omega))) | (refine rd_lt hB' _ ?_; (first | omega | (simp only [next_push, next_set, next_empty]; done) | (simp only [next_push, next_set, next_empty]; omega))) | (refine rd_lt hC' _ ?_; (first | omega | (simp only [next_push, next_set, next_empty]; done) | (simp only [next_push, next_set, next_empty]; omega)))); done))) | (apply Kinds3.nw 1; (focus (first | omega | (simp only [next_push, next_set, next_empty]; done) | (simp only [next_push, next_set, next_empty]; omega))); (focus ((first | exact bits0 | (refine bits1 ?_; (first | omega | (simp only [next_push, next_set, next_empty]; done) | (simp only [next_push, next_set, next_empty]; omega))) | (refine rd_lt hA' _ ?_; (first | omega | (simp only [next_push, next_set, next_empty]; done) | (simp only [next_push, next_set, next_empty]; omega))) | (refine rd_lt hB' _ ?_; (first | omega | (simp only [next_push, next_set, next_empty]; done) | (simp only [next_push, next_set, next_empty]; omega))) | (refine rd_lt hC' _ ?_; (first | omega | (simp only [next_push, next_set, next_empty]; done) | (simp only [next_push, next_set, next_empty]; omega)))); done))) | (apply Kinds3.nw 2; (focus (first | omega | (simp only [next_push, next_set, next_empty]; done) | (simp only [next_push, next_set, next_empty]; omega))); (focus ((first | exact bits0 | (refine bits1 ?_; (first | omega | (simp only [next_push, next_set, next_empty]; done) | (simp only [next_push, next_set, next_empty]; omega))) | (refine rd_lt hA' _ ?_; (first | omega | (simp only [next_push, next_set, next_empty]; done) | (simp only [next_push, next_set, next_empty]; omega))) | (refine rd_lt hB' _ ?_; (first | omega | (simp only [next_push, next_set, next_empty]; done) | (simp only [next_push, next_set, next_empty]; omega))) | (refine rd_lt hC' _ ?_; (first | omega | (simp only [next_push, next_set, next_empty]; done) | (simp only [next_push, next_set, next_empty]; omega)))); done))) | (apply Kinds3.ra; (focus (first | exact RoT.zero | exact RoT.rd | exact RoT.all | exact RoT.rdTr _ | assumption))) | apply Kinds3.any)); done)); decide +kernel)
   | (refine V.condT rfl ?_)
   | (refine V.condF rfl ?_)
   | (refine V.cond rfl (fun h => ?_) (fun h => ?_) <;> (try simp only [decide_eq_true_eq, decide_eq_false_iff_not, Bool.and_eq_true, Bool.or_eq_true, Bool.and_eq_false_iff, Bool.or_eq_false_iff, Bool.not_eq_true', Bool.not_eq_false', Bool.not_true, Bool.not_false, Classical.not_not, Int.not_lt, Int.not_le, reduceCtorEq, not_true_eq_false, not_false_eq_true, decide_true, decide_false, Int.reduceEq, Int.reduceLT, Int.reduceLE] at h) <;> (try (exfalso; omega)))
    | (refine FnQ.ret (res1 Tryz.results72) (by simp only [Nat.reduceDiv, Nat.reduceMod, get_nthS, nthS_zero, nthS_succ]; rfl) ?_; (try dsimp only)))
  apply V.lpF [3, 6, 7, 8, 9, 10, 11, 12, 13, 14, 15, 16, 17, 18] (fun k xs => ∃ (i : Nat) (g : _), xs = .v (.int .i64 i) :: g ∧ k = i ∧ i ≤ l.length ∧ usedN l i = usedN l l.length) l.length
  focus (intro xs; simp only [putMany, set2, Nat.reduceAdd, Nat.reduceDiv, Nat.reduceMod, nth_zero, nth_succ, List.set_cons_zero, List.set_cons_succ]; rfl)
  focus (first | rfl | simp only [readMany, nth_zero, nth_succ, Nat.reduceDiv, Nat.reduceMod])
  · exact ⟨l.length, _, rfl, rfl, Nat.le_refl _, rfl⟩
  · rintro k xs ⟨i, g, rfl, rfl, hi, hst⟩
    have e2 : ((k : Int) - 1).toNat = k - 1 := by omega
    have hc := cut_hi hA' k hi
    have htr : usedN l k = k → trimL l = l.take k := fun hu => by rw [trimL, ← hst, hu]
    rcases Nat.eq_zero_or_pos k with h0 | h0
    · subst h0
      have happ := append_new0 EZ lo' (H := H') (t := 45) (s := .v (.slice none 0 0)) (.inr rfl) app_cell hc
      repeat' (first
       | (apply RK.free; rfl)
       | (apply RKy.pl; ((try simp only [go_sem, Nat.reduceDiv, Nat.reduceMod, Nat.reduceAdd, Nat.reduceSub, Nat.reduceEqDiff, Nat.reduceLeDiff, Nat.reduceLT, Nat.reduceMul, reduceIte, Nat.reducePow, Int.reduceEq]); rfl))
       | (apply RKp.op; ((try simp (disch := (first | omega | ((repeat (first | exact Ext.refl _ | assumption | apply Ext.push | (refine Ext.set ?_ (by (first | omega | (simp only [next_push, next_set, next_empty]; done) | (simp only [next_push, next_set, next_empty]; omega))) _))); done) | fail)) only [ix_cell _ hA', ld_cell _ hA', e2, sl_hi _ hA', Int.toNat_natCast, eqC0, happ, go_sem, Nat.reduceDiv, Nat.reduceMod, Nat.reduceAdd, Nat.reduceSub, Nat.reduceEqDiff, Nat.reduceLeDiff, Nat.reduceLT, Nat.reduceMul, reduceIte, Nat.reducePow, Int.reduceEq]); (first | rfl | (apply ite_ok; (first | assumption | rfl | omega | (refine ⟨?_, ?_⟩ <;> omega)); rfl))); rfl)
       | (apply RKp.call; (apply refBlank_run <;> (first | assumption | rfl | omega | (refine ⟨?_, ?_⟩ <;> omega))); rfl)
       | (apply RKp.callR; (apply refBlank_run <;> (first | assumption | rfl | omega | (refine ⟨?_, ?_⟩ <;> omega))); rfl; intro tr htr)
       | (apply RKp.callO; (apply refBlank_run <;> (first | assumption | rfl | omega | (refine ⟨?_, ?_⟩ <;> omega))); rfl; intro tr)
       | (apply RKp.callRE; (apply refBlank_run <;> (first | assumption | rfl | omega | (refine ⟨?_, ?_⟩ <;> omega))); (intro x; rfl))
       | (apply RKp.callE; (apply refBlank_run <;> (first | assumption | rfl | omega | (refine ⟨?_, ?_⟩ <;> omega))); (intro x; rfl))
       | (apply RK.guard; rfl; rfl; (simp only [Nat.reduceDiv, Nat.reduceMod, get_nthS, nthS_zero, nthS_succ]; rfl))
       | apply RKg.tt
       | apply RKg.ff
       | (apply RKg.tf; rfl)
       | (apply RKg.ft; rfl)
       | (apply RKg.u; rfl)
       | ((fail_if_success (first | apply RKg.tt | apply RKg.ff | apply RKg.tf | apply RKg.ft | apply RKg.u)); refine RKg.split (fun h => ?_) (fun h => ?_) <;> (try rw [h]) <;> (try simp only [decide_eq_true_eq, decide_eq_false_iff_not, Bool.and_eq_true, Bool.or_eq_true, Bool.and_eq_false_iff, Bool.or_eq_false_iff, Bool.not_eq_true', Bool.not_eq_false', Bool.not_true, Bool.not_false, Classical.not_not, Int.not_lt, Int.not_le, reduceCtorEq, not_true_eq_false, not_false_eq_true, decide_true, decide_false, Int.reduceEq, Int.reduceLT, Int.reduceLE] at h) <;> (try (exfalso; omega)))
       | apply RK.nil
       | apply V.sq
       | apply V.bl
       | apply V.sc
       | apply V.skip
       | apply V.label
       | apply V.ret
       | apply V.exit
       | apply SeqQ.normal
       | apply SeqQ.ret
       | apply SeqQ.exit
       | apply BlockQ.normal
       | apply BlockQ.ret
       | apply BlockQ.here
       | (apply BlockQ.there; decide)
       | apply LoopS.ret
       | apply LoopS.exit
       | apply LoopF.ret
       | apply LoopF.exit
       | apply V.regK
        | (refine V.regdK (by kernel_rfl) ?_)
       | (refine DrawK.mk ?_ ?_; (focus (simp only [List.reverse_cons, List.reverse_nil, List.nil_append, List.cons_append]; decide +kernel)))
       | (apply DrawK.k3; (simp only [List.reverse_cons, List.reverse_nil, List.nil_append, List.cons_append]; rfl); (focus ((repeat (first | exact Kinds3.nil | apply Kinds3.z | (apply Kinds3.ro; (focus ((first | exact bits0 | (refine bits1 ?_; (first | omega | (simp only [next_push, next_set, next_empty]; done) | (simp only [next_push, next_set, next_empty]; omega))) | (refine rd_lt hA' _ ?_; (first | omega | (simp only [next_push, next_set, next_empty]; done) | (simp only [next_push, next_set, next_empty]; omega))) | (refine rd_lt hB' _ ?_; (first | omega | (simp only [next_push, next_set, next_empty]; done) | (simp only [next_push, next_set, next_empty]; omega))) | (refine rd_lt hC' _ ?_; (first | omega | (simp only [next_push, next_set, next_empty]; done) | (simp only [next_push, next_set, next_empty]; omega)))); done))) | (apply Kinds3.rd; (focus ((first | exact bits0 | (refine bits1 ?_; (first | omega | (simp only [next_push, next_set, next_empty]; done) | (simp only [next_push, next_set, next_empty]; omega))) | (refine rd_lt hA' _ ?_; (first | omega | (simp only [next_push, next_set, next_empty]; done) | (simp only [next_push, next_set, next_empty]; omega))) | (refine rd_lt hB' _ ?_; (first | omega | (simp only [next_push, next_set, next_empty]; done) | (simp only [next_push, next_set, next_empty]; omega))) | (refine rd_lt hC' _ ?_; (first | omega | (simp only [next_push, next_set, next_empty]; done) | (simp only [next_push, next_set, next_empty]; omega)))); done))) | (apply Kinds3.nw 0; (focus (first | omega | (simp only [next_push, next_set, next_empty]; done) | (simp only [next_push, next_set, next_empty]; omega))); (focus ((first | exact bits0 | (refine bits1 ?_; (first | omega | (simp only [next_push, next_set, next_empty]; done) | (simp only [next_push, next_set, next_empty]; omega))) | (refine rd_lt hA' _ ?_; (first | omega | (simp only [next_push, next_set, next_empty]; done) | (simp only [next_push, next_set, next_empty]; omega))) | (refine rd_lt hB' _ ?_; (first | omega | (simp only [next_push, next_set, next_empty]; done) | (simp only [next_push, next_set, next_empty]; omega))) | (refine rd_lt hC' _ ?_; (first | omega | (simp only [next_push, next_set, next_empty]; done) | (simp only [next_push, next_set, next_empty]; omega)))); done))) | (apply Kinds3.nw 1; (focus (first | omega | (simp only [next_push, next_set, next_empty]; done) | (simp only [next_push, next_set, next_empty]; omega))); (focus ((first | exact bits0 | (refine bits1 ?_; (first | omega | (simp only [next_push, next_set, next_empty]; done) | (simp only [next_push, next_set, next_empty]; omega))) | (refine rd_lt hA' _ ?_; (first | omega | (simp only [next_push, next_set, next_empty]; done) | (simp only [next_push, next_set, next_empty]; omega))) | (refine rd_lt hB' _ ?_; (first | omega | (simp only [next_push, next_set, next_empty]; done) | (simp only [next_push, next_set, next_empty]; omega))) | (refine rd_lt hC' _ ?_; (first | omega | (simp only [next_push, next_set, next_empty]; done) | (simp only [next_push, next_set, next_empty]; omega)))); done))) | (apply Kinds3.nw 2; (focus (first | omega | (simp only [next_push, next_set, next_empty]; done) | (simp only [next_push, next_set, next_empty]; omega))); (focus ((first | exact bits0 | (refine bits1 ?_; (first | omega | (simp only [next_push, next_set, next_empty]; done) | (simp only [next_push, next_set, next_empty]; omega))) | (refine rd_lt hA' _ ?_; (first | omega | (simp only [next_push, next_set, next_empty]; done) | (simp only [next_push, next_set, next_empty]; omega))) | (refine rd_lt hB' _ ?_; (first | omega | (simp only [next_push, next_set, next_empty]; done) | (simp only [next_push, next_set, next_empty]; omega))) | (refine rd_lt hC' _ ?_; (first | omega | (simp only [next_push, next_set, next_empty]; done) | (simp only [next_push, next_set, next_empty]; omega)))); done))) | (apply Kinds3.ra; (focus (first | exact RoT.zero | exact RoT.rd | exact RoT.all | exact RoT.rdTr _ | assumption))) | apply Kinds3.any)); done)); decide +kernel)
       | (refine V.condT rfl ?_)
       | (refine V.condF rfl ?_)
       | (refine V.cond rfl (fun h => ?_) (fun h => ?_) <;> (try simp only [decide_eq_true_eq, decide_eq_false_iff_not, Bool.and_eq_true, Bool.or_eq_true, Bool.and_eq_false_iff, Bool.or_eq_false_iff, Bool.not_eq_true', Bool.not_eq_false', Bool.not_true, Bool.not_false, Classical.not_not, Int.not_lt, Int.not_le, reduceCtorEq, not_true_eq_false, not_false_eq_true, decide_true, decide_false, Int.reduceEq, Int.reduceLT, Int.reduceLE] at h) <;> (try (exfalso; omega)))
        | (refine FnQ.ret (res1 Tryz.results72) (by simp only [Nat.reduceDiv, Nat.reduceMod, get_nthS, nthS_zero, nthS_succ]; rfl) ?_; (try dsimp only)))
      rw [frzR_v, htr rfl]
      exact .inr ⟨rfl, .inr rfl⟩
    · have happ := append_new EZ lo' (H := H') (t := 45) (s := .v (.slice none 0 0)) (.inr rfl) app_cell hc (take_ne h0 hi) (by simp only [ces_len, List.length_take]; unfold roomMax; omega)
      rw [ces_len, List.length_take, Nat.min_eq_left hi] at happ
      repeat' (first
       | (apply RK.free; rfl)
       | (apply RKy.pl; ((try simp only [go_sem, Nat.reduceDiv, Nat.reduceMod, Nat.reduceAdd, Nat.reduceSub, Nat.reduceEqDiff, Nat.reduceLeDiff, Nat.reduceLT, Nat.reduceMul, reduceIte, Nat.reducePow, Int.reduceEq]); rfl))
       | (apply RKp.op; ((try simp (disch := (first | omega | ((repeat (first | exact Ext.refl _ | assumption | apply Ext.push | (refine Ext.set ?_ (by (first | omega | (simp only [next_push, next_set, next_empty]; done) | (simp only [next_push, next_set, next_empty]; omega))) _))); done) | fail)) only [ix_cell _ hA', ld_cell _ hA', e2, sl_hi _ hA', Int.toNat_natCast, eqC0, happ, go_sem, Nat.reduceDiv, Nat.reduceMod, Nat.reduceAdd, Nat.reduceSub, Nat.reduceEqDiff, Nat.reduceLeDiff, Nat.reduceLT, Nat.reduceMul, reduceIte, Nat.reducePow, Int.reduceEq]); (first | rfl | (apply ite_ok; (first | assumption | rfl | omega | (refine ⟨?_, ?_⟩ <;> omega)); rfl))); rfl)
       | (apply RKp.call; (apply refBlank_run <;> (first | assumption | rfl | omega | (refine ⟨?_, ?_⟩ <;> omega))); rfl)
       | (apply RKp.callR; (apply refBlank_run <;> (first | assumption | rfl | omega | (refine ⟨?_, ?_⟩ <;> omega))); rfl; intro tr htr)
       | (apply RKp.callO; (apply refBlank_run <;> (first | assumption | rfl | omega | (refine ⟨?_, ?_⟩ <;> omega))); rfl; intro tr)
       | (apply RKp.callRE; (apply refBlank_run <;> (first | assumption | rfl | omega | (refine ⟨?_, ?_⟩ <;> omega))); (intro x; rfl))
       | (apply RKp.callE; (apply refBlank_run <;> (first | assumption | rfl | omega | (refine ⟨?_, ?_⟩ <;> omega))); (intro x; rfl))
       | (apply RK.guard; rfl; rfl; (simp only [Nat.reduceDiv, Nat.reduceMod, get_nthS, nthS_zero, nthS_succ]; rfl))
       | apply RKg.tt
       | apply RKg.ff
       | (apply RKg.tf; rfl)
       | (apply RKg.ft; rfl)
       | (apply RKg.u; rfl)
       | ((fail_if_success (first | apply RKg.tt | apply RKg.ff | apply RKg.tf | apply RKg.ft | apply RKg.u)); refine RKg.split (fun h => ?_) (fun h => ?_) <;> (try rw [h]) <;> (try simp only [decide_eq_true_eq, decide_eq_false_iff_not, Bool.and_eq_true, Bool.or_eq_true, Bool.and_eq_false_iff, Bool.or_eq_false_iff, Bool.not_eq_true', Bool.not_eq_false', Bool.not_true, Bool.not_false, Classical.not_not, Int.not_lt, Int.not_le, reduceCtorEq, not_true_eq_false, not_false_eq_true, decide_true, decide_false, Int.reduceEq, Int.reduceLT, Int.reduceLE] at h) <;> (try (exfalso; omega)))
       | apply RK.nil
       | apply V.sq
       | apply V.bl
       | apply V.sc
       | apply V.skip
       | apply V.label
       | apply V.ret
       | apply V.exit
       | apply SeqQ.normal
       | apply SeqQ.ret
       | apply SeqQ.exit
       | apply BlockQ.normal
       | apply BlockQ.ret
       | apply BlockQ.here
       | (apply BlockQ.there; decide)
       | apply LoopS.ret
       | apply LoopS.exit
       | apply LoopF.ret
       | apply LoopF.exit
       | apply V.regK
        | (refine V.regdK (by kernel_rfl) ?_)
       | (refine DrawK.mk ?_ ?_; (focus (simp only [List.reverse_cons, List.reverse_nil, List.nil_append, List.cons_append]; decide +kernel)))
       | (apply DrawK.k3; (simp only [List.reverse_cons, List.reverse_nil, List.nil_append, List.cons_append]; rfl); (focus ((repeat (first | exact Kinds3.nil | apply Kinds3.z | (apply Kinds3.ro; (focus ((first | exact bits0 | (refine bits1 ?_; (first | omega | (simp only [next_push, next_set, next_empty]; done) | (simp only [next_push, next_set, next_empty]; omega))) | (refine rd_lt hA' _ ?_; (first | omega | (simp only [next_push, next_set, next_empty]; done) | (simp only [next_push, next_set, next_empty]; omega))) | (refine rd_lt hB' _ ?_; (first | omega | (simp only [next_push, next_set, next_empty]; done) | (simp only [next_push, next_set, next_empty]; omega))) | (refine rd_lt hC' _ ?_; (first | omega | (simp only [next_push, next_set, next_empty]; done) | (simp only [next_push, next_set, next_empty]; omega)))); done))) | (apply Kinds3.rd; (focus ((first | exact bits0 | (refine bits1 ?_; (first | omega | (simp only [next_push, next_set, next_empty]; done) | (simp only [next_push, next_set, next_empty]; omega))) | (refine rd_lt hA' _ ?_; (first | omega | (simp only [next_push, next_set, next_empty]; done) | (simp only [next_push, next_set, next_empty]; omega))) | (refine rd_lt hB' _ ?_; (first | omega | (simp only [next_push, next_set, next_empty]; done) | (simp only [next_push, next_set, next_empty]; omega))) | (refine rd_lt hC' _ ?_; (first | omega | (simp only [next_push, next_set, next_empty]; done) | (simp only [next_push, next_set, next_empty]; omega)))); done))) | (apply Kinds3.nw 0; (focus (first | omega | (simp only [next_push, next_set, next_empty]; done) | (simp only [next_push, next_set, next_empty]; omega))); (focus ((first | exact bits0 | (refine bits1 ?_; (first | omega | (simp only [next_push, next_set, next_empty]; done) | (simp only [next_push, next_set, next_empty]; omega))) | (refine rd_lt hA' _ ?_; (first | omega | (simp only [next_push, next_set, next_empty]; done) | (simp only [next_push, next_set, next_empty]; omega))) | (refine rd_lt hB' _ ?_; (first | omega | (simp only [next_push, next_set, next_empty]; done) | (simp only [next_push, next_set, next_empty]; omega))) | (refine rd_lt hC' _ ?_; (first | omega | (simp only [next_push, next_set, next_empty]; done) | (simp only [next_push, next_set, next_empty]; omega)))); done))) | (apply Kinds3.nw 1; (focus (first | omega | (simp only [next_push, next_set, next_empty]; done) | (simp only [next_push, next_set, next_empty]; omega))); (focus ((first | exact bits0 | (refine bits1 ?_; (first | omega | (simp only [next_push, next_set, next_empty]; done) | (simp only [next_push, next_set, next_empty]; omega))) | (refine rd_lt hA' _ ?_; (first | omega | (simp only [next_push, next_set, next_empty]; done) | (simp only [next_push, next_set, next_empty]; omega))) | (refine rd_lt hB' _ ?_; (first | omega | (simp only [next_push, next_set, next_empty]; done) | (simp only [next_push, next_set, next_empty]; omega))) | (refine rd_lt hC' _ ?_; (first | omega | (simp only [next_push, next_set, next_empty]; done) | (simp only [next_push, next_set, next_empty]; omega)))); done))) | (apply Kinds3.nw 2; (focus (first | omega | (simp only [next_push, next_set, next_empty]; done) | (simp only [next_push, next_set, next_empty]; omega))); (focus ((first | exact bits0 | (refine bits1 ?_; (first | omega | (simp only [next_push, next_set, next_empty]; done) | (simp only [next_push, next_set, next_empty]; omega))) | (refine rd_lt hA' _ ?_; (first | omega | (simp only [next_push, next_set, next_empty]; done) | (simp only [next_push, next_set, next_empty]; omega))) | (refine rd_lt hB' _ ?_; (first | omega | (simp only [next_push, next_set, next_empty]; done) | (simp only [next_push, next_set, next_empty]; omega))) | (refine rd_lt hC' _ ?_; (first | omega | (simp only [next_push, next_set, next_empty]; done) | (simp only [next_push, next_set, next_empty]; omega)))); done))) | (apply Kinds3.ra; (focus (first | exact RoT.zero | exact RoT.rd | exact RoT.all | exact RoT.rdTr _ | assumption))) | apply Kinds3.any)); done)); decide +kernel)
       | (refine V.condT rfl ?_)
       | (refine V.condF rfl ?_)
       | (refine V.cond rfl (fun h => ?_) (fun h => ?_) <;> (try simp only [decide_eq_true_eq, decide_eq_false_iff_not, Bool.and_eq_true, Bool.or_eq_true, Bool.and_eq_false_iff, Bool.or_eq_false_iff, Bool.not_eq_true', Bool.not_eq_false', Bool.not_true, Bool.not_false, Classical.not_not, Int.not_lt, Int.not_le, reduceCtorEq, not_true_eq_false, not_false_eq_true, decide_true, decide_false, Int.reduceEq, Int.reduceLT, Int.reduceLE] at h) <;> (try (exfalso; omega)))
        | (refine FnQ.ret (res1 Tryz.results72) (by simp only [Nat.reduceDiv, Nat.reduceMod, get_nthS, nthS_zero, nthS_succ]; rfl) ?_; (try dsimp only)))
      · refine LoopF.again (k - 1) (by rfl) (by omega) ⟨k - 1, _, by rw [show ((k - 1 : Nat) : Int) = (k : Int) - 1 by omega]; rfl, rfl, by omega, ?_⟩
        rw [← hst]
        obtain ⟨j, rfl⟩ : ∃ j, k = j + 1 := ⟨k - 1, by omega⟩
        simp only [usedN, Nat.add_sub_cancel] at h ⊢
        rw [if_pos (Ce.eqv.2 h)]
      · have hu : usedN l k = k := by
          have hk : ¬ l.getD (k - 1) zeroC = blankC := fun e => h (Ce.eqv.1 e)
          obtain ⟨j, rfl⟩ : ∃ j, k = j + 1 := ⟨k - 1, by omega⟩
          simp only [usedN]
          exact if_neg hk
        have := os_frz (H := H'.push (cblk 0 (l.take k))) (lo := lo') (n := H'.next) (e := 0) (l := l.take k) (by omega) (by rw [get_push, if_pos rfl])
        rw [List.length_take, Nat.min_eq_left hi] at this
        rw [this, htr hu]
        exact .inl rfl
theorem EqCells_run (hA : SlH H 3 A (cesA l)) (hB : SlH H 3 B (cesA m)) (hl : l.length < 2 ^ 40) (hm : m.length < 2 ^ 40) : CallRo EZ ys lo 68 [A, B] H (.v (.bool (decide (l = m)))) := by
  refine WC.pureR rfl fun lo' H' hh => ?_
  have hA' := hA.two (.inr ⟨[], .inr (by simp)⟩) hh
  have hB' := hB.two (.inr ⟨[], .inr (by simp)⟩) hh
  refine WC.enter Tryz.func68 rfl (Nat.le_of_ble_eq_true rfl) (by simp only [Slots.of, Tryz.ntmps68, Nat.reduceAdd, Nat.reduceDiv, rows8P, row8]; rfl) ?_
  repeat' (first
   | (apply RK.free; rfl)
   | (apply RKy.pl; ((try simp only [go_sem, Nat.reduceDiv, Nat.reduceMod, Nat.reduceAdd, Nat.reduceSub, Nat.reduceEqDiff, Nat.reduceLeDiff, Nat.reduceLT, Nat.reduceMul, reduceIte, Nat.reducePow, Int.reduceEq]); rfl))
   | (apply RKp.op; ((try simp (disch := (first | omega | ((repeat (first | exact Ext.refl _ | assumption | apply Ext.push | (refine Ext.set ?_ (by (first | omega | (simp only [next_push, next_set, next_empty]; done) | (simp only [next_push, next_set, next_empty]; omega))) _))); done) | fail)) only [len_cell _ hA', len_cell _ hB', go_sem, Nat.reduceDiv, Nat.reduceMod, Nat.reduceAdd, Nat.reduceSub, Nat.reduceEqDiff, Nat.reduceLeDiff, Nat.reduceLT, Nat.reduceMul, reduceIte, Nat.reducePow, Int.reduceEq]); (first | rfl | (apply ite_ok; (first | assumption | rfl | omega | (refine ⟨?_, ?_⟩ <;> omega)); rfl))); rfl)
   | (apply RK.guard; rfl; rfl; (simp only [Nat.reduceDiv, Nat.reduceMod, get_nthS, nthS_zero, nthS_succ]; rfl))
   | apply RKg.tt
   | apply RKg.ff
   | (apply RKg.tf; rfl)
   | (apply RKg.ft; rfl)
   | (apply RKg.u; rfl)
   | ((fail_if_success (first | apply RKg.tt | apply RKg.ff | apply RKg.tf | apply RKg.ft | apply RKg.u)); refine RKg.split (fun h => ?_) (fun h => ?_) <;> (try rw [h]) <;> (try simp only [decide_eq_true_eq, decide_eq_false_iff_not, Bool.and_eq_true, Bool.or_eq_true, Bool.and_eq_false_iff, Bool.or_eq_false_iff, Bool.not_eq_true', Bool.not_eq_false', Bool.not_true, Bool.not_false, Classical.not_not, Int.not_lt, Int.not_le, reduceCtorEq, not_true_eq_false, not_false_eq_true, decide_true, decide_false, Int.reduceEq, Int.reduceLT, Int.reduceLE] at h) <;> (try (exfalso; omega)))
   | apply RK.nil
   | apply V.sq
   | apply V.bl
   | apply V.sc
   | apply V.skip
   | apply V.label
   | apply V.ret
   | apply V.exit
   | apply SeqQ.normal
   | apply SeqQ.ret
   | apply SeqQ.exit
   | apply BlockQ.normal
   | apply BlockQ.ret
   | apply BlockQ.here
   | (apply BlockQ.there; decide)
   | apply LoopS.ret
   | apply LoopS.exit
   | apply LoopF.ret
   | apply LoopF.exit
   | apply V.regK
    | (refine V.regdK (by kernel_rfl) ?_)
   | (refine DrawK.mk ?_ ?_; (focus (simp only [List.reverse_cons, List.reverse_nil, List.nil_append, List.cons_append]; decide +kernel)))
   | (apply DrawK.k3; (simp only [List.reverse_cons, List.reverse_nil, List.nil_append, List.cons_append]; rfl); (focus ((repeat (first | exact Kinds3.nil | apply Kinds3.z | (apply Kinds3.ro; (focus ((first | exact bits0 | (refine bits1 ?_; (first | omega | (simp only [next_push, next_set, next_empty]; done) | (simp only [next_push, next_set, next_empty]; omega))) | (refine rd_lt hA' _ ?_; (first | omega | (simp only [next_push, next_set, next_empty]; done) | (simp only [next_push, next_set, next_empty]; omega))) | (refine rd_lt hB' _ ?_; (first | omega | (simp only [next_push, next_set, next_empty]; done) | (simp only [next_push, next_set, next_empty]; omega))) | (refine rd_lt hC' _ ?_; (first | omega | (simp only [next_push, next_set, next_empty]; done) | (simp only [next_push, next_set, next_empty]; omega)))); done))) | (apply Kinds3.rd; (focus ((first | exact bits0 | (refine bits1 ?_; (first | omega | (simp only [next_push, next_set, next_empty]; done) | (simp only [next_push, next_set, next_empty]; omega))) | (refine rd_lt hA' _ ?_; (first | omega | (simp only [next_push, next_set, next_empty]; done) | (simp only [next_push, next_set, next_empty]; omega))) | (refine rd_lt hB' _ ?_; (first | omega | (simp only [next_push, next_set, next_empty]; done) | (simp only [next_push, next_set, next_empty]; omega))) | (refine rd_lt hC' _ ?_; (first | omega | (simp only [next_push, next_set, next_empty]; done) | (simp only [next_push, next_set, next_empty]; omega)))); done))) | (apply Kinds3.nw 0; (focus (first | omega | (simp only [next_push, next_set, next_empty]; done) | (simp only [next_push, next_set, next_empty]; omega))); (focus ((first | exact bits0 | (refine bits1 ?_; (first | omega | (simp only [next_push, next_set, next_empty]; done) | (simp only [next_push, next_set, next_empty]; omega))) | (refine rd_lt hA' _ ?_; (first | omega | (simp only [next_push, next_set, next_empty]; done) | (simp only [next_push, next_set, next_empty]; omega))) | (refine rd_lt hB' _ ?_; (first | omega | (simp only [next_push, next_set, next_empty]; done) | (simp only [next_push, next_set, next_empty]; omega))) | (refine rd_lt hC' _ ?_; (first | omega | (simp only [next_push, next_set, next_empty]; done) | (simp only [next_push, next_set, next_empty]; omega)))); done))) | (apply Kinds3.nw 1; (focus (first | omega | (simp only [next_push, next_set, next_empty]; done) | (simp only [next_push, next_set, next_empty]; omega))); (focus ((first | exact bits0 | (refine bits1 ?_; (first | omega | (simp only [next_push, next_set, next_empty]; done) | (simp only [next_push, next_set, next_empty]; omega))) | (refine rd_lt hA' _ ?_; (first | omega | (simp only [next_push, next_set, next_empty]; done) | (simp only [next_push, next_set, next_empty]; omega))) | (refine rd_lt hB' _ ?_; (first | omega | (simp only [next_push, next_set, next_empty]; done) | (simp only [next_push, next_set, next_empty]; omega))) | (refine rd_lt hC' _ ?_; (first | omega | (simp only [next_push, next_set, next_empty]; done) | (simp only [next_push, next_set, next_empty]; omega)))); done))) | (apply Kinds3.nw 2; (focus (first | omega | (simp only [next_push, next_set, next_empty]; done) | (simp only [next_push, next_set, next_empty]; omega))); (focus ((first | exact bits0 | (refine bits1 ?_; (first | omega | (simp only [next_push, next_set, next_empty]; done) | (simp only [next_push, next_set, next_empty]; omega))) | (refine rd_lt hA' _ ?_; (first | omega | (simp only [next_push, next_set, next_empty]; done) | (simp only [next_push, next_set, next_empty]; omega))) | (refine rd_lt hB' _ ?_; (first | omega | (simp only [next_push, next_set, next_empty]; done) | (simp only [next_push, next_set, next_empty]; omega))) | (refine rd_lt hC' _ ?_; (first | omega | (simp only [next_push, next_set, next_empty]; done) | (simp only [next_push, next_set, next_empty]; omega)))); done))) | (apply Kinds3.ra; (focus (first | exact RoT.zero | exact RoT.rd | exact RoT.all | exact RoT.rdTr _ | assumption))) | apply Kinds3.any)); done)); decide +kernel)
   | (refine V.condT rfl ?_)
   | (refine V.condF rfl ?_)
   | (refine V.cond rfl (fun h => ?_) (fun h => ?_) <;> (try simp only [decide_eq_true_eq, decide_eq_false_iff_not, Bool.and_eq_true, Bool.or_eq_true, Bool.and_eq_false_iff, Bool.or_eq_false_iff, Bool.not_eq_true', Bool.not_eq_false', Bool.not_true, Bool.not_false, Classical.not_not, Int.not_lt, Int.not_le, reduceCtorEq, not_true_eq_false, not_false_eq_true, decide_true, decide_false, Int.reduceEq, Int.reduceLT, Int.reduceLE] at h) <;> (try (exfalso; omega)))
    | (refine FnQ.ret (res1 Tryz.results68) (by simp only [Nat.reduceDiv, Nat.reduceMod, get_nthS, nthS_zero, nthS_succ]; rfl) ?_; (try dsimp only)))
  · rw [frzR_v]; congr 2
    rw [eq_comm, decide_eq_false_iff_not]
    rintro rfl; exact h rfl
  · have hlm : l.length = m.length := by omega
    apply V.lpF [5, 4, 11, 12, 13, 14, 15, 16, 17, 18, 19, 20, 21, 22, 23, 24, 25] (fun k xs => ∃ (i : Nat) (g : _), xs = .v (.int .i64 i) :: g ∧ k = l.length - i ∧ i ≤ l.length ∧ ∀ j, j < i → l.getD j zeroC = m.getD j zeroC) l.length
    focus (intro xs; simp only [putMany, set2, Nat.reduceAdd, Nat.reduceDiv, Nat.reduceMod, nth_zero, nth_succ, List.set_cons_zero, List.set_cons_succ]; rfl)
    focus (first | rfl | simp only [readMany, nth_zero, nth_succ, Nat.reduceDiv, Nat.reduceMod])
    · exact ⟨0, _, rfl, rfl, Nat.zero_le _, fun j h => absurd h (Nat.not_lt_zero _)⟩
    · rintro k xs ⟨i, g, rfl, rfl, hi, hst⟩
      repeat' (first
       | (apply RK.free; rfl)
       | (apply RKy.pl; ((try simp only [go_sem, Nat.reduceDiv, Nat.reduceMod, Nat.reduceAdd, Nat.reduceSub, Nat.reduceEqDiff, Nat.reduceLeDiff, Nat.reduceLT, Nat.reduceMul, reduceIte, Nat.reducePow, Int.reduceEq]); rfl))
       | (apply RKp.op; ((try simp (disch := (first | omega | ((repeat (first | exact Ext.refl _ | assumption | apply Ext.push | (refine Ext.set ?_ (by (first | omega | (simp only [next_push, next_set, next_empty]; done) | (simp only [next_push, next_set, next_empty]; omega))) _))); done) | fail)) only [len_cell _ hA', ix_cell _ hA', ix_cell _ hB', ld_cell _ hA', ld_cell _ hB', eqC1, Int.toNat_natCast, go_sem, Nat.reduceDiv, Nat.reduceMod, Nat.reduceAdd, Nat.reduceSub, Nat.reduceEqDiff, Nat.reduceLeDiff, Nat.reduceLT, Nat.reduceMul, reduceIte, Nat.reducePow, Int.reduceEq]); (first | rfl | (apply ite_ok; (first | assumption | rfl | omega | (refine ⟨?_, ?_⟩ <;> omega)); rfl))); rfl)
       | (apply RK.guard; rfl; rfl; (simp only [Nat.reduceDiv, Nat.reduceMod, get_nthS, nthS_zero, nthS_succ]; rfl))
       | apply RKg.tt
       | apply RKg.ff
       | (apply RKg.tf; rfl)
       | (apply RKg.ft; rfl)
       | (apply RKg.u; rfl)
       | ((fail_if_success (first | apply RKg.tt | apply RKg.ff | apply RKg.tf | apply RKg.ft | apply RKg.u)); refine RKg.split (fun h => ?_) (fun h => ?_) <;> (try rw [h]) <;> (try simp only [decide_eq_true_eq, decide_eq_false_iff_not, Bool.and_eq_true, Bool.or_eq_true, Bool.and_eq_false_iff, Bool.or_eq_false_iff, Bool.not_eq_true', Bool.not_eq_false', Bool.not_true, Bool.not_false, Classical.not_not, Int.not_lt, Int.not_le, reduceCtorEq, not_true_eq_false, not_false_eq_true, decide_true, decide_false, Int.reduceEq, Int.reduceLT, Int.reduceLE] at h) <;> (try (exfalso; omega)))
       | apply RK.nil
       | apply V.sq
       | apply V.bl
       | apply V.sc
       | apply V.skip
       | apply V.label
       | apply V.ret
       | apply V.exit
       | apply SeqQ.normal
       | apply SeqQ.ret
       | apply SeqQ.exit
       | apply BlockQ.normal
       | apply BlockQ.ret
       | apply BlockQ.here
       | (apply BlockQ.there; decide)
       | apply LoopS.ret
       | apply LoopS.exit
       | apply LoopF.ret
       | apply LoopF.exit
       | apply V.regK
        | (refine V.regdK (by kernel_rfl) ?_)
       | (refine DrawK.mk ?_ ?_; (focus (simp only [List.reverse_cons, List.reverse_nil, List.nil_append, List.cons_append]; decide +kernel)))
       | (apply DrawK.k3; (simp only [List.reverse_cons, List.reverse_nil, List.nil_append, List.cons_append]; rfl); (focus ((repeat (first | exact Kinds3.nil | apply Kinds3.z | (apply Kinds3.ro; (focus ((first | exact bits0 | (refine bits1 ?_; (first | omega | (simp only [next_push, next_set, next_empty]; done) | (simp only [next_push, next_set, next_empty]; omega))) | (refine rd_lt hA' _ ?_; (first | omega | (simp only [next_push, next_set, next_empty]; done) | (simp only [next_push, next_set, next_empty]; omega))) | (refine rd_lt hB' _ ?_; (first | omega | (simp only [next_push, next_set, next_empty]; done) | (simp only [next_push, next_set, next_empty]; omega))) | (refine rd_lt hC' _ ?_; (first | omega | (simp only [next_push, next_set, next_empty]; done) | (simp only [next_push, next_set, next_empty]; omega)))); done))) | (apply Kinds3.rd; (focus ((first | exact bits0 | (refine bits1 ?_; (first | omega | (simp only [next_push, next_set, next_empty]; done) | (simp only [next_push, next_set, next_empty]; omega))) | (refine rd_lt hA' _ ?_; (first | omega | (simp only [next_push, next_set, next_empty]; done) | (simp only [next_push, next_set, next_empty]; omega))) | (refine rd_lt hB' _ ?_; (first | omega | (simp only [next_push, next_set, next_empty]; done) | (simp only [next_push, next_set, next_empty]; omega))) | (refine rd_lt hC' _ ?_; (first | omega | (simp only [next_push, next_set, next_empty]; done) | (simp only [next_push, next_set, next_empty]; omega)))); done))) | (apply Kinds3.nw 0; (focus (first | omega | (simp only [next_push, next_set, next_empty]; done) | (simp only [next_push, next_set, next_empty]; omega))); (focus ((first | exact bits0 | (refine bits1 ?_; (first | omega | (simp only [next_push, next_set, next_empty]; done) | (simp only [next_push, next_set, next_empty]; omega))) | (refine rd_lt hA' _ ?_; (first | omega | (simp only [next_push, next_set, next_empty]; done) | (simp only [next_push, next_set, next_empty]; omega))) | (refine rd_lt hB' _ ?_; (first | omega | (simp only [next_push, next_set, next_empty]; done) | (simp only [next_push, next_set, next_empty]; omega))) | (refine rd_lt hC' _ ?_; (first | omega | (simp only [next_push, next_set, next_empty]; done) | (simp only [next_push, next_set, next_empty]; omega)))); done))) | (apply Kinds3.nw 1; (focus (first | omega | (simp only [next_push, next_set, next_empty]; done) | (simp only [next_push, next_set, next_empty]; omega))); (focus ((first | exact bits0 | (refine bits1 ?_; (first | omega | (simp only [next_push, next_set, next_empty]; done) | (simp only [next_push, next_set, next_empty]; omega))) | (refine rd_lt hA' _ ?_; (first | omega | (simp only [next_push, next_set, next_empty]; done) | (simp only [next_push, next_set, next_empty]; omega))) | (refine rd_lt hB' _ ?_; (first | omega | (simp only [next_push, next_set, next_empty]; done) | (simp only [next_push, next_set, next_empty]; omega))) | (refine rd_lt hC' _ ?_; (first | omega | (simp only [next_push, next_set, next_empty]; done) | (simp only [next_push, next_set, next_empty]; omega)))); done))) | (apply Kinds3.nw 2; (focus (first | omega | (simp only [next_push, next_set, next_empty]; done) | (simp only [next_push, next_set, next_empty]; omega))); (focus ((first | exact bits0 | (refine bits1 ?_; (first | omega | (simp only [next_push, next_set, next_empty]; done) | (simp only [next_push, next_set, next_empty]; omega))) | (refine rd_lt hA' _ ?_; (first | omega | (simp only [next_push, next_set, next_empty]; done) | (simp only [next_push, next_set, next_empty]; omega))) | (refine rd_lt hB' _ ?_; (first | omega | (simp only [next_push, next_set, next_empty]; done) | (simp only [next_push, next_set, next_empty]; omega))) | (refine rd_lt hC' _ ?_; (first | omega | (simp only [next_push, next_set, next_empty]; done) | (simp only [next_push, next_set, next_empty]; omega)))); done))) | (apply Kinds3.ra; (focus (first | exact RoT.zero | exact RoT.rd | exact RoT.all | exact RoT.rdTr _ | assumption))) | apply Kinds3.any)); done)); decide +kernel)
       | (refine V.condT rfl ?_)
       | (refine V.condF rfl ?_)
       | (refine V.cond rfl (fun h => ?_) (fun h => ?_) <;> (try simp only [decide_eq_true_eq, decide_eq_false_iff_not, Bool.and_eq_true, Bool.or_eq_true, Bool.and_eq_false_iff, Bool.or_eq_false_iff, Bool.not_eq_true', Bool.not_eq_false', Bool.not_true, Bool.not_false, Classical.not_not, Int.not_lt, Int.not_le, reduceCtorEq, not_true_eq_false, not_false_eq_true, decide_true, decide_false, Int.reduceEq, Int.reduceLT, Int.reduceLE] at h) <;> (try (exfalso; omega)))
        | (refine FnQ.ret (res1 Tryz.results68) (by simp only [Nat.reduceDiv, Nat.reduceMod, get_nthS, nthS_zero, nthS_succ]; rfl) ?_; (try dsimp only)))
      · rw [frzR_v]; congr 2
        rw [eq_comm, decide_eq_false_iff_not]
        rintro rfl; simp at h
      · refine LoopF.again (l.length - (i + 1)) (by rfl) (by omega) ⟨i + 1, _, rfl, rfl, by omega, fun j hj => ?_⟩
        rcases Nat.lt_succ_iff_lt_or_eq.1 hj with hj | rfl
        · exact hst j hj
        · obtain ⟨h1, h2, h3⟩ := h
          exact Ce.eqv.2 ⟨h1, h2, h3⟩
      · rw [frzR_v]; congr 2
        rw [eq_comm, decide_eq_true_eq]
        exact ce_ext hlm fun j h1 => hst j (by omega)
theorem EqRow_run (hA : SlH H 3 A (cesA l)) (hB : SlH H 3 B (cesA m)) (hl : l.length < 2 ^ 40) (hm : m.length < 2 ^ 40) : CallRo EZ ys lo 27 [rowA A wr, rowA B wr'] H (.v (.bool (decide (l = m ∧ wr = wr')))) := by
  refine WC.pureR rfl fun lo' H' hh => ?_
  have hA' := (hA.two (.inr ⟨[A, .v (.bool wr)], .inl (by simp)⟩) hh)
  have hB' := (hB.two (.inr ⟨[B, .v (.bool wr')], .inl (by simp)⟩) hh)
  have hA1 := (hA'.push (rblk A wr)).push (rblk B wr')
  have hB1 := (hB'.push (rblk A wr)).push (rblk B wr')
  refine WC.enter Tryz.func27 rfl (Nat.le_of_ble_eq_true rfl) (by simp only [Slots.of, Tryz.ntmps27, Nat.reduceAdd, Nat.reduceDiv, rows8P, row8]; rfl) ?_
  repeat' (first
   | (apply RK.free; rfl)
   | (apply RKy.pl; ((try simp only [go_sem, Nat.reduceDiv, Nat.reduceMod, Nat.reduceAdd, Nat.reduceSub, Nat.reduceEqDiff, Nat.reduceLeDiff, Nat.reduceLT, Nat.reduceMul, reduceIte, Nat.reducePow, Int.reduceEq]); rfl))
   | (apply RKp.op; ((try simp (disch := (first | omega | ((repeat (first | exact Ext.refl _ | assumption | apply Ext.push | (refine Ext.set ?_ (by (first | omega | (simp only [next_push, next_set, next_empty]; done) | (simp only [next_push, next_set, next_empty]; omega))) _))); done) | fail)) only [go_sem, Nat.reduceDiv, Nat.reduceMod, Nat.reduceAdd, Nat.reduceSub, Nat.reduceEqDiff, Nat.reduceLeDiff, Nat.reduceLT, Nat.reduceMul, reduceIte, Nat.reducePow, Int.reduceEq]); (first | rfl | (apply ite_ok; (first | assumption | rfl | omega | (refine ⟨?_, ?_⟩ <;> omega)); rfl))); rfl)
   | (apply RKp.call; (apply EqCells_run <;> (first | assumption | rfl | omega | (refine ⟨?_, ?_⟩ <;> omega))); rfl)
   | (apply RKp.callR; (apply EqCells_run <;> (first | assumption | rfl | omega | (refine ⟨?_, ?_⟩ <;> omega))); rfl; intro tr htr)
   | (apply RKp.callO; (apply EqCells_run <;> (first | assumption | rfl | omega | (refine ⟨?_, ?_⟩ <;> omega))); rfl; intro tr)
   | (apply RKp.callRE; (apply EqCells_run <;> (first | assumption | rfl | omega | (refine ⟨?_, ?_⟩ <;> omega))); (intro x; rfl))
   | (apply RKp.callE; (apply EqCells_run <;> (first | assumption | rfl | omega | (refine ⟨?_, ?_⟩ <;> omega))); (intro x; rfl))
   | (apply RK.guard; rfl; rfl; (simp only [Nat.reduceDiv, Nat.reduceMod, get_nthS, nthS_zero, nthS_succ]; rfl))
   | apply RKg.tt
   | apply RKg.ff
   | (apply RKg.tf; rfl)
   | (apply RKg.ft; rfl)
   | (apply RKg.u; rfl)
   | ((fail_if_success (first | apply RKg.tt | apply RKg.ff | apply RKg.tf | apply RKg.ft | apply RKg.u)); refine RKg.split (fun h => ?_) (fun h => ?_) <;> (try rw [h]) <;> (try simp only [decide_eq_true_eq, decide_eq_false_iff_not, Bool.and_eq_true, Bool.or_eq_true, Bool.and_eq_false_iff, Bool.or_eq_false_iff, Bool.not_eq_true', Bool.not_eq_false', Bool.not_true, Bool.not_false, Classical.not_not, Int.not_lt, Int.not_le, reduceCtorEq, not_true_eq_false, not_false_eq_true, decide_true, decide_false, Int.reduceEq, Int.reduceLT, Int.reduceLE] at h) <;> (try (exfalso; omega)))
   | apply RK.nil
   | apply V.sq
   | apply V.bl
   | apply V.sc
   | apply V.skip
   | apply V.label
   | apply V.ret
   | apply V.exit
   | apply SeqQ.normal
   | apply SeqQ.ret
   | apply SeqQ.exit
   | apply BlockQ.normal
   | apply BlockQ.ret
   | apply BlockQ.here
   | (apply BlockQ.there; decide)
   | apply LoopS.ret
   | apply LoopS.exit
   | apply LoopF.ret
   | apply LoopF.exit
   | apply V.regK
   | (refine V.condT rfl ?_)
   | (refine V.condF rfl ?_)
   | (refine V.cond rfl (fun h => ?_) (fun h => ?_) <;> (try simp only [decide_eq_true_eq, decide_eq_false_iff_not, Bool.and_eq_true, Bool.or_eq_true, Bool.and_eq_false_iff, Bool.or_eq_false_iff, Bool.not_eq_true', Bool.not_eq_false', Bool.not_true, Bool.not_false, Classical.not_not, Int.not_lt, Int.not_le, reduceCtorEq, not_true_eq_false, not_false_eq_true, decide_true, decide_false, Int.reduceEq, Int.reduceLT, Int.reduceLE] at h) <;> (try (exfalso; omega)))
    | (refine FnQ.ret (res1 Tryz.results27) (by simp only [Nat.reduceDiv, Nat.reduceMod, get_nthS, nthS_zero, nthS_succ]; rfl) ?_; (try dsimp only)))
  all_goals (rw [frzR_v]; congr 2; rw [Bool.eq_iff_iff]; simp_all)
end
end Go.Am
