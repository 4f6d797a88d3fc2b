/- Parts of the proof: RLnN RLnO RLnJ. -/
import Derived.Test.YtmcimfmibpfnhaaGreatRLinY
import Derived.Test.YtmcimfmibpfnhaaGreatRLnP
import Derived.Test.YtmcimfmibpfnhaaGreatRLnC
import Derived.Test.YtmcimfmibpfnhaaGreatRLinC
set_option linter.all false
set_option linter.deprecated false

namespace Go.Am
variable {oc : Orc} [OrcI oc]
open Go.Proofs
set_option maxRecDepth 8000
set_option maxHeartbeats 1000000
theorem OwS.onN {H H' : AHeap} {base elem sz : Nat} {x : AV} {es : List (List AV)} (h : OwS H base elem sz x es) (hn : H.next ≤ H'.next) (hg : ∀ k, nmO x k → H'.get k = H.get k) : OwS H' base elem sz x es := by
  rcases h with h | ⟨n, e, rfl, hb, hl, hget⟩
  · exact .inl h
  · exact .inr ⟨n, e, rfl, hb, Nat.lt_of_lt_of_le hl hn, by rw [hg n ⟨_, _, _, rfl⟩]; exact hget⟩
theorem rdTr_Sl {sz : Nat} {x : AV} {es : List (List AV)} (h : Sl sz x es) : rdTr x = ⟨0, 0, 0⟩ := by rcases h with rfl | ⟨rfl, rfl | rfl⟩ <;> rfl

/-- One more, by a block of its own. -/
theorem OwS.push1 (E : Env) (lo : Nat) {H : AHeap} {t elem bytes sz base : Nat} {x : AV} {es : List (List AV)} (ho : OwS H base elem sz x es) (h : appInfo E.P t = some (elem, bytes, sz)) (hlo : lo ≤ base) (hbn : base ≤ H.next) (hr : (es.length + 1) * bytes ≤ roomMax) (cs : List AV) : ∃ x' H' tr, primL lo (H.push ⟨elem, sz, 0, [cs], none⟩) (appendA E t x (.os H.next 0 0 1)) = some (x', H', tr) ∧ OwS H' base elem sz x' (es ++ [cs]) ∧ H.next + 1 ≤ H'.next ∧ (∀ k, k < H.next → ¬ nmO x k → H'.get k = H.get k) ∧ ∀ k, nmO x' k → nmO x k ∨ H.next ≤ k := by
  obtain ⟨A', H3, tr3, h1, h2, h3, h4, -, h5⟩ := (ho.push ⟨elem, sz, 0, [cs], none⟩).addN E lo h (y := .os H.next 0 0 1) (new := [cs]) (.inr ⟨H.next, 0, 0, _, rfl, by rw [next_push]; omega, by rw [get_push, if_pos rfl], rfl, rfl, rfl, by simp, rfl⟩) (fun k hk hk2 => by
    obtain ⟨_, _, _, e⟩ := hk2
    cases e
    have := ho.nm hk; omega) hlo (by rw [next_push]; omega) (by simpa using hr)
  rw [next_push] at h3 h4 h5
  refine ⟨A', H3, tr3, h1, h2, h3, fun k hk hk2 => by rw [h4 k (by omega) hk2, get_push, if_neg (by omega)], fun k hk => ?_⟩
  rcases h5 k hk with z | z
  · exact .inl z
  · exact .inr (by omega)
structure Nest (H : AHeap) (base : Nat) (x : AV) (es : List (List AV)) (ls : List (List Ce)) : Prop where
  len : es.length = ls.length
  ow : ∀ j, j < ls.length → OwS H base 52 3 (bOf es j) (cesA (ls.getD j []))
  nx : ∀ j, j < ls.length → ∀ k, nmO (bOf es j) k → ¬ nmO x k
  ds : ∀ i j, i < ls.length → j < ls.length → i ≠ j → ∀ k, nmO (bOf es i) k → ¬ nmO (bOf es j) k
section
variable {H H' : AHeap} {base : Nat} {x x' : AV} {es : List (List AV)} {ls : List (List Ce)}
theorem Nest.nil : Nest H base x [] [] := ⟨rfl, fun j h => absurd h (Nat.not_lt_zero _), fun j h => absurd h (Nat.not_lt_zero _), fun i j h => absurd h (Nat.not_lt_zero _)⟩
theorem Nest.on (h : Nest H base x es ls) (hn : H.next ≤ H'.next) (hg : ∀ k, base ≤ k → k < H.next → ¬ nmO x k → H'.get k = H.get k) (hx : ∀ k, nmO x' k → nmO x k ∨ H.next ≤ k) : Nest H' base x' es ls := by
  refine ⟨h.len, fun j hj => (h.ow j hj).onN hn fun k hk => hg k ((h.ow j hj).nm hk).1 ((h.ow j hj).nm hk).2 (h.nx j hj k hk), fun j hj k hk q => ?_, h.ds⟩
  rcases hx k q with q | q
  · exact h.nx j hj k hk q
  · have := ((h.ow j hj).nm hk).2; omega
theorem bOf_add (es : List (List AV)) (c : List AV) (j : Nat) : bOf (es ++ [c]) j = if j < es.length then bOf es j else if j = es.length then c.getD 0 .dead else .dead := by
  unfold bOf
  rw [nth_app1]
  split
  · rfl
  · split <;> rfl
theorem getD_setN {α : Type} (l : List α) (x d : α) (i j : Nat) (hj : j < l.length) : (l.set i x).getD j d = if j = i then x else l.getD j d := by
  rw [List.getD_eq_getElem?_getD, List.getElem?_set]
  by_cases e : i = j
  · rw [if_pos e, if_pos (by omega), if_pos e.symm]; rfl
  · rw [if_neg e, if_neg (fun z => e z.symm), List.getD_eq_getElem?_getD]
theorem bOf_set (es : List (List AV)) (c : List AV) (i j : Nat) (hj : j < es.length) : bOf (es.set i c) j = if j = i then c.getD 0 .dead else bOf es j := by
  unfold bOf
  rw [nth_getD, nth_getD, getD_setN _ _ _ _ _ hj]
  split <;> rfl
theorem Nest.add (h : Nest H base x es ls) {c : List AV} {l : List Ce} (hc : OwS H base 52 3 (c.getD 0 .dead) (cesA l)) (h1 : ∀ k, nmO (c.getD 0 .dead) k → ¬ nmO x k ∧ ∀ j, j < ls.length → ¬ nmO (bOf es j) k) : Nest H base x (es ++ [c]) (ls ++ [l]) := by
  have hl := h.len
  have e1 : ∀ j, j < ls.length + 1 → bOf (es ++ [c]) j = if j < ls.length then bOf es j else c.getD 0 .dead := fun j hj => by
    rw [bOf_add, hl]
    by_cases q : j < ls.length
    · rw [if_pos q, if_pos q]
    · rw [if_neg q, if_neg q, if_pos (by omega)]
  have e2 : ∀ j, j < ls.length + 1 → (ls ++ [l]).getD j [] = if j < ls.length then ls.getD j [] else l := fun j hj => by
    rw [getD_app1]
    by_cases q : j < ls.length
    · rw [if_pos q, if_pos q]
    · rw [if_neg q, if_neg q, if_pos (by omega)]
  have e3 : (ls ++ [l]).length = ls.length + 1 := by rw [List.length_append]; rfl
  refine ⟨by rw [List.length_append, e3, hl]; rfl, fun j hj => ?_, fun j hj k hk => ?_, fun i j hi hj hij k hk => ?_⟩
  · rw [e3] at hj
    rw [e1 j hj, e2 j hj]
    by_cases q : j < ls.length
    · rw [if_pos q, if_pos q]; exact h.ow j q
    · rw [if_neg q, if_neg q]; exact hc
  · rw [e3] at hj
    rw [e1 j hj] at hk
    by_cases q : j < ls.length
    · rw [if_pos q] at hk; exact h.nx j q k hk
    · rw [if_neg q] at hk; exact (h1 k hk).1
  · rw [e3] at hi hj
    rw [e1 i hi] at hk
    rw [e1 j hj]
    by_cases q : j < ls.length
    · rw [if_pos q]
      by_cases q2 : i < ls.length
      · rw [if_pos q2] at hk; exact h.ds i j q2 q hij k hk
      · rw [if_neg q2] at hk; exact (h1 k hk).2 j q
    · rw [if_neg q, if_pos (by omega)] at *
      exact fun z => (h1 k z).2 i (by omega) hk
theorem Nest.put (h : Nest H base x es ls) (j : Nat) (hj : j < ls.length) {c : List AV} {l : List Ce} (hn : H.next ≤ H'.next) (hc : OwS H' base 52 3 (c.getD 0 .dead) (cesA l)) (hg : ∀ k, base ≤ k → k < H.next → ¬ nmO x k → ¬ nmO (bOf es j) k → H'.get k = H.get k) (hnm : ∀ k, nmO (c.getD 0 .dead) k → nmO (bOf es j) k ∨ H.next ≤ k) (hxl : ∀ k, nmO x k → k < H.next) : Nest H' base x (es.set j c) (ls.set j l) := by
  have hl := h.len
  have e1 : ∀ i, i < ls.length → bOf (es.set j c) i = if i = j then c.getD 0 .dead else bOf es i := fun i hi => bOf_set es c j i (by omega)
  have e2 : ∀ i, i < ls.length → (ls.set j l).getD i [] = if i = j then l else ls.getD i [] := fun i hi => getD_setN ls l [] j i hi
  have e3 : (ls.set j l).length = ls.length := List.length_set
  refine ⟨by rw [List.length_set, e3, hl], fun i hi => ?_, fun i hi k hk => ?_, fun i i2 hi hi2 hii k hk => ?_⟩
  · rw [e3] at hi
    rw [e1 i hi, e2 i hi]
    by_cases q : i = j
    · rw [if_pos q, if_pos q]; exact hc
    · rw [if_neg q, if_neg q]
      exact (h.ow i hi).onN hn fun k hk => hg k ((h.ow i hi).nm hk).1 ((h.ow i hi).nm hk).2 (h.nx i hi k hk) (h.ds i j hi hj q k hk)
  · rw [e3] at hi
    rw [e1 i hi] at hk
    by_cases q : i = j
    · rw [if_pos q] at hk
      rcases hnm k hk with z | z
      · exact h.nx j hj k z
      · exact fun y => by have := hxl k y; omega
    · rw [if_neg q] at hk; exact h.nx i hi k hk
  · rw [e3] at hi hi2
    rw [e1 i hi] at hk
    rw [e1 i2 hi2]
    by_cases q : i = j
    · rw [if_pos q] at hk
      rw [if_neg (by omega)]
      rcases hnm k hk with z | z
      · exact h.ds j i2 hj hi2 (by omega) k z
      · exact fun y => by have := ((h.ow i2 hi2).nm y).2; omega
    · rw [if_neg q] at hk
      by_cases q2 : i2 = j
      · rw [if_pos q2]
        intro y
        rcases hnm k y with z | z
        · exact h.ds i j hi hj q k hk z
        · have := ((h.ow i hi).nm hk).2; omega
      · rw [if_neg q2]; exact h.ds i i2 hi hi2 hii k hk
theorem Nest.growN (lo : Nat) (h : Nest H base x es ls) (j : Nat) (hj : j < ls.length) (hlo : lo ≤ base) (hbn : base ≤ H.next) {y : AV} {m : List Ce} (hy : Sl 3 y (cesA m)) (hr : (ls.getD j []).length + m.length < 2 ^ 20) : ∃ A' H3 tr3, primL lo H (appendA (ELo oc) 41 (bOf es j) y) = some (A', H3, tr3) ∧ OwS H3 base 52 3 A' (cesA (ls.getD j [] ++ m)) ∧ H.next ≤ H3.next ∧ (∀ k, k < H.next → ¬ nmO (bOf es j) k → H3.get k = H.get k) ∧ ∀ k, nmO A' k → nmO (bOf es j) k ∨ H.next ≤ k := by
  have ho := h.ow j hj
  obtain ⟨A', H3, tr3, h1, h2, h3, h4, -, h5⟩ := ho.addN (ELo oc) lo app_cell (.inl hy) (fun k hk hk2 => hy.nmO hk2) hlo hbn (by rw [ces_len, ces_len]; unfold roomMax; omega)
  refine ⟨A', H3, tr3, h1, by rw [cesA, List.map_append]; exact h2, h3, h4, h5⟩
end
end Go.Am

namespace Go.Am
variable {oc : Orc} [OrcI oc]
open Go.Proofs
set_option maxRecDepth 8000
set_option maxHeartbeats 8000000
def intE (l : List Nat) : List (List AV) := l.map fun n : Nat => [.v (.int .i64 (n : Int))]
def intA (l : List Nat) : AV := if l = [] then nilA else .sl 1 (intE l)
theorem intE_len (l : List Nat) : (intE l).length = l.length := List.length_map _
theorem flat_intE (l : List Nat) : FlatE (intE l) := FlatE.map (fun c x hx => by rw [List.mem_singleton] at hx; subst hx; rfl) l
theorem intA_Sl (l : List Nat) : Sl 1 (intA l) (intE l) := by
  unfold intA
  split
  · rename_i h; subst h; exact .inr ⟨rfl, .inr rfl⟩
  · exact .inl rfl
theorem intE_add (l : List Nat) (n : Nat) : intE (l ++ [n]) = intE l ++ [[.v (.int .i64 (n : Int))]] := by unfold intE; rw [List.map_append]; rfl
theorem nth_intE (l : List Nat) (i : Nat) (h : i < l.length) : nth [] (intE l) i = [.v (.int .i64 ((l.getD i 0 : Nat) : Int))] := nth_map _ l i 0 h
theorem app_int : appInfo (ELo oc).P 59 = some (3, 8, 1) := by kernel_rfl
theorem own_intA {H : AHeap} {lo base : Nat} {x : AV} {l : List Nat} (ho : OwS H base 3 1 x (intE l)) (h0 : l = [] → x = nilA) (hb : lo ≤ base) : frzR1 H lo x = intA l := by
  by_cases hl : l = []
  · subst hl; rw [h0 rfl]; rfl
  · rcases ho with ⟨h1, _⟩ | ⟨n, e, rfl, h1, h2, h3⟩
    · have := congrArg List.length h1
      rw [intE_len] at this
      exact absurd (List.eq_nil_of_length_eq_zero this) hl
    · rw [frzR1_os H lo (by omega) h3 rfl rfl (by simp) (show 0 < 1 by decide) (flat_intE l)]
      simp [intA, hl]
def lineN (rows : List Rw) (i : Nat) : List Nat := (List.range i).map fun j => (ofN rows j).1
def offN (rows : List Rw) (i : Nat) : List Nat := (List.range i).map fun j => (ofN rows j).2
theorem lineN_S (rows : List Rw) (i : Nat) : lineN rows (i + 1) = lineN rows i ++ [(ofN rows i).1] := by unfold lineN; rw [List.range_succ, List.map_append]; rfl
theorem offN_S (rows : List Rw) (i : Nat) : offN rows (i + 1) = offN rows i ++ [(ofN rows i).2] := by unfold offN; rw [List.range_succ, List.map_append]; rfl
theorem lineN_len (rows : List Rw) (i : Nat) : (lineN rows i).length = i := by unfold lineN; rw [List.length_map, List.length_range]
theorem offN_len (rows : List Rw) (i : Nat) : (offN rows i).length = i := by unfold offN; rw [List.length_map, List.length_range]
theorem lineN_at (rows : List Rw) (i j : Nat) (h : j < i) : (lineN rows i).getD j 0 = (ofN rows j).1 := by
  unfold lineN; rw [List.getD_eq_getElem?_getD, List.getElem?_map, List.getElem?_range h]; rfl
theorem offN_at (rows : List Rw) (i j : Nat) (h : j < i) : (offN rows i).getD j 0 = (ofN rows j).2 := by
  unfold offN; rw [List.getD_eq_getElem?_getD, List.getElem?_map, List.getElem?_range h]; rfl
section
variable {ys : List (Nat × LRec)} {lo : Nat} {H : AHeap} {A : AV} {es : List (List AV)} {rows : List Rw}
theorem refOf_run (hA : SlH H 2 A es) (hr : RsP es rows) (hrl : rows.length < 2 ^ 20) : CallRo (ELo oc) ys lo 67 [A] H (.tup [intA (lineN rows rows.length), intA (offN rows rows.length)]) := by
  refine WC.pureR rfl fun lo' H' hh => ?_
  have hA' := hA.two (.inr ⟨[], .inr (by simp)⟩) hh
  have hlo := lo_two hh
  refine zvin Tryz.func67 Tryz.ntmps67 ?_
  repeat' (first | refine zka ?_ | refine zkb ?_ | (apply RKp.op; ((try simp (disch := (first | omega | exact zX | exact zO | fail)) only [lenR lo' hA' hr, go_sem, Nat.reduceDiv, Nat.reduceMod, Nat.reduceAdd, Nat.reduceSub, Nat.reduceEqDiff, Nat.reduceLeDiff, Nat.reduceLT, Nat.reduceMul, reduceIte, Nat.reducePow, Int.reduceEq]); exact zL); rfl) | refine zkc ?_ | apply RKg.tt | apply RKg.ff | refine zkd ?_ | refine zke ?_ | refine zkf ?_ | (refine RKg.split (fun h => ?_) (fun h => ?_) <;> (try rw [h]) <;> (replace h := zB h) <;> (try (exfalso; first | exact h | omega))) | apply RK.nil | apply V.sq | apply V.bl | apply V.sc | apply V.skip | apply V.label | apply V.ret | apply V.exit | apply SeqQ.normal | apply SeqQ.ret | apply SeqQ.exit | apply BlockQ.normal | apply BlockQ.ret | apply BlockQ.here | refine zbt ?_ | apply LoopS.ret | apply LoopS.exit | apply LoopF.ret | apply LoopF.exit | apply V.regK | refine zvd ?_ | refine zve ?_ | (refine zvf (fun h => ?_) (fun h => ?_) <;> (replace h := zB h) <;> (try (exfalso; first | exact h | omega))) | (refine zfd Tryz.results67 ?_; (try dsimp only)))
  apply V.lpS [8, 4, 5, 6, 7, 9, 10, 11, 12, 13, 14, 15, 16, 17, 18, 19, 20, 21, 22, 23, 24, 25, 26, 27, 28, 29, 30, 31, 32, 33, 34, 35, 36, 37, 38, 39, 40, 41, 42, 43, 44, 45, 46] (fun k xs H2 => ∃ (i n a : Nat) (x y : AV) (g : _), xs = .v (.int .i64 i) :: x :: y :: .v (.int .i64 n) :: .v (.int .i64 a) :: g ∧ k = rows.length - i ∧ i ≤ rows.length ∧ n = (ofN rows i).1 ∧ a = (ofN rows i).2 ∧ Ext H' H2 ∧ OwS H2 H'.next 3 1 x (intE (lineN rows i)) ∧ OwS H2 H'.next 3 1 y (intE (offN rows i)) ∧ (∀ k, nmO x k → ¬ nmO y k) ∧ (i = 0 → x = nilA ∧ y = nilA)) rows.length
  focus (intro xs; simp only [putMany, set2, Nat.reduceAdd, Nat.reduceDiv, Nat.reduceMod, nth_zero, nth_succ, List.set_cons_zero, List.set_cons_succ]; rfl)
  focus (first | rfl | simp only [readMany, nth_zero, nth_succ, Nat.reduceDiv, Nat.reduceMod])
  · exact ⟨0, 0, 0, _, _, _, rfl, rfl, Nat.zero_le _, rfl, rfl, Ext.refl _, OwS.nil _ _ _ _, OwS.nil _ _ _ _, fun k hk => (by obtain ⟨_, _, _, e⟩ := hk; cases e), fun _ => ⟨rfl, rfl⟩⟩
  · rintro k xs H2 ⟨i, n, a, x, y, g, rfl, rfl, hi, hn, ha, hx, hox, hoy, hd, h0⟩
    have hn2 := hx.next
    by_cases hlt : i < rows.length
    · have hO := ofN_S (rows := rows) (i := i) hlt
      have hbi := ofN_bd rows i (by omega)
      have hsg := fun ys G => refSigns_run (ys := ys) (lo := lo') (H := G) (wr := (rows.getD i noRw).2) (.inl (hr.sl i hlt)) (by have := hr.lt i hlt; omega) (hr.r32 i hlt)
      have hsl := fun G => len_cell lo' (H := G) (.inl (slA_Sl (sigR ((rows.getD i noRw).1, (rows.getD i noRw).2))))
      have h300 := sigR_300 ((rows.getD i noRw).1, (rows.getD i noRw).2)
      have hRow := fun ys G => Row_R (ys := ys) (lo := lo') (H := G) (wr := (rows.getD i noRw).2) (.inl (hr.sl i hlt)) (by have := hr.lt i hlt; omega) (hr.r32 i hlt)
      have hs2 : (sndR (rows.getD i noRw)).2 = (decide (rowG (rows.getD i noRw).1) && (rows.getD i noRw).2) := sndR_2 _ _
      have el : ((lineN rows i).length) = i := lineN_len rows i
      have eo : ((offN rows i).length) = i := offN_len rows i
      obtain ⟨x', H3, tr3, hap1, hox', hnx3, hfr3, hnm3⟩ := hox.push1 (ELo oc) lo' app_int (by omega) (by omega) (by rw [intE_len, el]; unfold roomMax; omega) [.v (.int .i64 (n : Int))]
      have hoy3 : OwS H3 H'.next 3 1 y (intE (offN rows i)) := hoy.onN (by omega) fun k hk => hfr3 k (hoy.nm hk).2 (fun z => hd k z hk)
      obtain ⟨y', H4, tr4, hap2, hoy', hnx4, hfr4, hnm4⟩ := hoy3.push1 (ELo oc) lo' app_int (by omega) (by omega) (by rw [intE_len, eo]; unfold roomMax; omega) [.v (.int .i64 (a : Int))]
      have hd3 : ∀ k, nmO x' k → ¬ nmO y k := fun k hk hk2 => by
        rcases hnm3 k hk with z | z
        · exact hd k z hk2
        · have := (hoy.nm hk2).2; omega
      have hox4 : OwS H4 H'.next 3 1 x' (intE (lineN rows i) ++ [[.v (.int .i64 (n : Int))]]) := hox'.onN (by omega) fun k hk => hfr4 k (hox'.nm hk).2 (hd3 k hk)
      have hd4 : ∀ k, nmO x' k → ¬ nmO y' k := fun k hk hk2 => by
        rcases hnm4 k hk2 with z | z
        · exact hd3 k hk z
        · have := (hox'.nm hk).2; omega
      have hx4 : Ext H' H4 := ⟨by omega, fun k hk => by rw [hfr4 k (by omega) (fun z => by have := (hoy.nm z).1; omega), hfr3 k (by omega) (fun z => by have := (hox.nm z).1; omega), hx.get k hk]⟩
      rw [hn, ← intE_add, ← lineN_S] at hox4
      rw [ha, ← intE_add, ← offN_S] at hoy'
      have lwT := fun G hG => lwR lo' hA' hr G hG i hlt
      by_cases hw : (rows.getD i noRw).2 = true
      · simp only [hw] at lwT
        by_cases hG : rowG (rows.getD i noRw).1
        · simp only [decide_eq_true hG] at hRow
          rw [decide_eq_true hG, hw, Bool.and_true] at hs2
          repeat' (first | refine zka ?_ | refine zkb ?_ | (apply RKp.op; ((try simp (disch := (first | omega | exact zX | exact zO | fail)) only [lenR lo' hA' hr, ixR lo' hA' hr, ldR lo' hA' hr, faR lo' hA', lwT, hap1, hap2, hsl, Int.toNat_natCast, go_sem, Nat.reduceDiv, Nat.reduceMod, Nat.reduceAdd, Nat.reduceSub, Nat.reduceEqDiff, Nat.reduceLeDiff, Nat.reduceLT, Nat.reduceMul, reduceIte, Nat.reducePow, Int.reduceEq]); exact zL); rfl) | (apply RKp.callR; ((first | apply hsg | apply hRow) <;> (exact zD)); rfl; intro tr htr) | refine zkc ?_ | apply RKg.tt | apply RKg.ff | refine zkd ?_ | refine zke ?_ | refine zkf ?_ | (refine RKg.split (fun h => ?_) (fun h => ?_) <;> (try rw [h]) <;> (replace h := zB h) <;> (try (exfalso; first | exact h | omega))) | apply RK.nil | apply V.sq | apply V.bl | apply V.sc | apply V.skip | apply V.label | apply V.ret | apply V.exit | apply SeqQ.normal | apply SeqQ.ret | apply SeqQ.exit | apply BlockQ.normal | apply BlockQ.ret | apply BlockQ.here | refine zbt ?_ | apply LoopS.ret | apply LoopS.exit | apply LoopF.ret | apply LoopF.exit | apply V.regK | refine zvd ?_ | refine zve ?_ | (refine zvf (fun h => ?_) (fun h => ?_) <;> (replace h := zB h) <;> (try (exfalso; first | exact h | omega))) | (refine zfd Tryz.results67 ?_; (try dsimp only)))
          exact LoopS.again (rows.length - (i + 1)) (by rfl) (by omega) ⟨i + 1, n, a + (sigR ((rows.getD i noRw).1, (rows.getD i noRw).2)).length, x', y', _, rfl, rfl, by omega, by rw [(hO.1 hs2).1, hn], by rw [(hO.1 hs2).2, ha], hx4, hox4, hoy', hd4, fun z => by omega⟩
        · simp only [decide_eq_false hG] at hRow
          rw [decide_eq_false hG, Bool.false_and] at hs2
          repeat' (first | refine zka ?_ | refine zkb ?_ | (apply RKp.op; ((try simp (disch := (first | omega | exact zX | exact zO | fail)) only [lenR lo' hA' hr, ixR lo' hA' hr, ldR lo' hA' hr, faR lo' hA', lwT, hap1, hap2, hsl, Int.toNat_natCast, go_sem, Nat.reduceDiv, Nat.reduceMod, Nat.reduceAdd, Nat.reduceSub, Nat.reduceEqDiff, Nat.reduceLeDiff, Nat.reduceLT, Nat.reduceMul, reduceIte, Nat.reducePow, Int.reduceEq]); exact zL); rfl) | (apply RKp.callR; ((first | apply hsg | apply hRow) <;> (exact zD)); rfl; intro tr htr) | refine zkc ?_ | apply RKg.tt | apply RKg.ff | refine zkd ?_ | refine zke ?_ | refine zkf ?_ | (refine RKg.split (fun h => ?_) (fun h => ?_) <;> (try rw [h]) <;> (replace h := zB h) <;> (try (exfalso; first | exact h | omega))) | apply RK.nil | apply V.sq | apply V.bl | apply V.sc | apply V.skip | apply V.label | apply V.ret | apply V.exit | apply SeqQ.normal | apply SeqQ.ret | apply SeqQ.exit | apply BlockQ.normal | apply BlockQ.ret | apply BlockQ.here | refine zbt ?_ | apply LoopS.ret | apply LoopS.exit | apply LoopF.ret | apply LoopF.exit | apply V.regK | refine zvd ?_ | refine zve ?_ | (refine zvf (fun h => ?_) (fun h => ?_) <;> (replace h := zB h) <;> (try (exfalso; first | exact h | omega))) | (refine zfd Tryz.results67 ?_; (try dsimp only)))
          exact LoopS.again (rows.length - (i + 1)) (by rfl) (by omega) ⟨i + 1, n + 1, 0, x', y', _, rfl, rfl, by omega, by rw [(hO.2 hs2).1, hn], by rw [(hO.2 hs2).2], hx4, hox4, hoy', hd4, fun z => by omega⟩
      · rw [Bool.not_eq_true] at hw
        rw [hw, Bool.and_false] at hs2
        simp only [hw] at lwT
        repeat' (first | refine zka ?_ | refine zkb ?_ | (apply RKp.op; ((try simp (disch := (first | omega | exact zX | exact zO | fail)) only [lenR lo' hA' hr, ixR lo' hA' hr, ldR lo' hA' hr, faR lo' hA', lwT, hap1, hap2, hsl, Int.toNat_natCast, go_sem, Nat.reduceDiv, Nat.reduceMod, Nat.reduceAdd, Nat.reduceSub, Nat.reduceEqDiff, Nat.reduceLeDiff, Nat.reduceLT, Nat.reduceMul, reduceIte, Nat.reducePow, Int.reduceEq]); exact zL); rfl) | (apply RKp.callR; ((first | apply hsg | apply hRow) <;> (exact zD)); rfl; intro tr htr) | refine zkc ?_ | apply RKg.tt | apply RKg.ff | refine zkd ?_ | refine zke ?_ | refine zkf ?_ | (refine RKg.split (fun h => ?_) (fun h => ?_) <;> (try rw [h]) <;> (replace h := zB h) <;> (try (exfalso; first | exact h | omega))) | apply RK.nil | apply V.sq | apply V.bl | apply V.sc | apply V.skip | apply V.label | apply V.ret | apply V.exit | apply SeqQ.normal | apply SeqQ.ret | apply SeqQ.exit | apply BlockQ.normal | apply BlockQ.ret | apply BlockQ.here | refine zbt ?_ | apply LoopS.ret | apply LoopS.exit | apply LoopF.ret | apply LoopF.exit | apply V.regK | refine zvd ?_ | refine zve ?_ | (refine zvf (fun h => ?_) (fun h => ?_) <;> (replace h := zB h) <;> (try (exfalso; first | exact h | omega))) | (refine zfd Tryz.results67 ?_; (try dsimp only)))
        exact LoopS.again (rows.length - (i + 1)) (by rfl) (by omega) ⟨i + 1, n + 1, 0, x', y', _, rfl, rfl, by omega, by rw [(hO.2 hs2).1, hn], by rw [(hO.2 hs2).2], hx4, hox4, hoy', hd4, fun z => by omega⟩
    · have e : i = rows.length := by omega
      subst e
      repeat' (first | refine zka ?_ | refine zkb ?_ | (apply RKp.op; ((try simp (disch := (first | omega | exact zX | exact zO | fail)) only [lenR lo' hA' hr, go_sem, Nat.reduceDiv, Nat.reduceMod, Nat.reduceAdd, Nat.reduceSub, Nat.reduceEqDiff, Nat.reduceLeDiff, Nat.reduceLT, Nat.reduceMul, reduceIte, Nat.reducePow, Int.reduceEq]); exact zL); rfl) | refine zkc ?_ | apply RKg.tt | apply RKg.ff | refine zkd ?_ | refine zke ?_ | refine zkf ?_ | (refine RKg.split (fun h => ?_) (fun h => ?_) <;> (try rw [h]) <;> (replace h := zB h) <;> (try (exfalso; first | exact h | omega))) | apply RK.nil | apply V.sq | apply V.bl | apply V.sc | apply V.skip | apply V.label | apply V.ret | apply V.exit | apply SeqQ.normal | apply SeqQ.ret | apply SeqQ.exit | apply BlockQ.normal | apply BlockQ.ret | apply BlockQ.here | refine zbt ?_ | apply LoopS.ret | apply LoopS.exit | apply LoopF.ret | apply LoopF.exit | apply V.regK | refine zvd ?_ | refine zve ?_ | (refine zvf (fun h => ?_) (fun h => ?_) <;> (replace h := zB h) <;> (try (exfalso; first | exact h | omega))) | (refine zfd Tryz.results67 ?_; (try dsimp only)))
      rw [frzR_tup, List.map_cons, List.map_cons, List.map_nil]
      have hz : ∀ l : List Nat, l.length = rows.length → l = [] → rows.length = 0 := fun l h1 h2 => by rw [h2] at h1; exact h1.symm
      rw [own_intA hox (fun z => (h0 (hz _ (lineN_len rows _) z)).1) (by omega), own_intA hoy (fun z => (h0 (hz _ (offN_len rows _) z)).2) (by omega)]
end
end Go.Am

namespace Go.Am
variable {oc : Orc} [OrcI oc]
open Go.Proofs
set_option maxRecDepth 8000
set_option maxHeartbeats 8000000
theorem dropLast_set {α : Type} {l : List α} (x : α) (h : l ≠ []) : l.dropLast ++ [x] = l.set (l.length - 1) x := by
  obtain ⟨m, a, rfl⟩ : ∃ m a, l = m ++ [a] := ⟨l.dropLast, l.getLast h, (List.dropLast_concat_getLast h).symm⟩
  rw [List.dropLast_concat, List.length_append, List.length_singleton, Nat.add_sub_cancel, set_last rfl]
abbrev rawL (rows : List Rw) (i : Nat) : List (List Ce) × Bool := rawF ([], false) (rows.take i)
theorem raw_len (rows : List Rw) (i : Nat) (h : i ≤ rows.length) : ((rawL rows i).2 = true → (ofN rows i).1 + 1 = (rawL rows i).1.length) ∧ ((rawL rows i).2 = false → (ofN rows i).1 = (rawL rows i).1.length) := by
  have := raw_of rows i h
  refine ⟨fun e => ?_, fun e => ?_⟩
  · rw [if_pos e] at this; exact this
  · rw [if_neg (by rw [e]; decide)] at this; exact this
theorem raw_step (rows : List Rw) (i : Nat) (h : i < rows.length) : ((rawL rows i).2 = true → (rawL rows (i + 1)).1 = (rawL rows i).1.set (ofN rows i).1 ((rawL rows i).1.getD (ofN rows i).1 [] ++ sigR (rows.getD i noRw))) ∧ ((rawL rows i).2 = false → (rawL rows (i + 1)).1 = ((rawL rows i).1 ++ [[]]).set (ofN rows i).1 (((rawL rows i).1 ++ [[]]).getD (ofN rows i).1 [] ++ sigR (rows.getD i noRw))) := by
  have hl := raw_len rows i (by omega)
  have e : rawL rows (i + 1) = ((if (rawL rows i).2 = true then (rawL rows i).1.dropLast ++ [(rawL rows i).1.getLastD [] ++ sigR (rows.getD i noRw)] else (rawL rows i).1 ++ [sigR (rows.getD i noRw)]), (sndR (rows.getD i noRw)).2) := by
    unfold rawL
    rw [take_succD noRw h, rawF_app]; rfl
  rw [e]
  dsimp only
  generalize rawL rows i = p at *
  obtain ⟨out, op⟩ := p
  dsimp only at *
  refine ⟨fun q => ?_, fun q => ?_⟩
  · have hl := hl.1 q
    have hne : out ≠ [] := fun z => by rw [z] at hl; simp at hl
    rw [if_pos q, dropLast_set _ hne]
    have e1 : out.length - 1 = (ofN rows i).1 := by omega
    rw [e1]
    congr 2
    rw [List.getLastD_eq_getLast?, List.getLast?_eq_getElem?, e1, List.getD_eq_getElem?_getD]
  · have hl := hl.2 q
    have eg : (out ++ [[]]).getD out.length [] = [] := by rw [List.getD_eq_getElem?_getD, List.getElem?_append_right (Nat.le_refl _), Nat.sub_self]; rfl
    rw [if_neg (by rw [q]; decide), hl, set_last rfl, eg]
    rfl
theorem raw_bd {es : List (List AV)} {rows : List Rw} (hr : RsP es rows) (i : Nat) (h : i ≤ rows.length) : (rawL rows i).1.length ≤ i ∧ ∀ l ∈ (rawL rows i).1, l.length ≤ i * 300 ∧ R32 l := by
  induction i with
  | zero => exact ⟨Nat.le_refl _, fun l hl => by cases hl⟩
  | succ i ih =>
    obtain ⟨ih1, ih2⟩ := ih (by omega)
    have hl := raw_len rows i (by omega)
    have hst := raw_step rows i (by omega)
    have h3 := sigR_300 (rows.getD i noRw)
    have hs32 : R32 (sigR (rows.getD i noRw)) := R32_sigR (hr.r32 i (by omega))
    have key : ∀ ls : List (List Ce), (∀ l ∈ ls, l.length ≤ i * 300 ∧ R32 l) → ∀ j, ∀ l ∈ ls.set j (ls.getD j [] ++ sigR (rows.getD i noRw)), l.length ≤ (i + 1) * 300 ∧ R32 l := fun ls hls j l hm => by
      rcases List.mem_or_eq_of_mem_set hm with q | rfl
      · have := hls l q; exact ⟨by omega, this.2⟩
      · have hg : (ls.getD j []).length ≤ i * 300 ∧ R32 (ls.getD j []) := by
          rw [List.getD_eq_getElem?_getD]
          rcases Nat.lt_or_ge j ls.length with q | q
          · rw [List.getElem?_eq_getElem q]; exact hls _ (List.getElem_mem q)
          · rw [List.getElem?_eq_none q]; exact ⟨Nat.zero_le _, R32_mem.2 fun c hc => by cases hc⟩
        rw [List.length_append]
        exact ⟨by omega, R32_app hg.2 hs32⟩
    cases hq : (rawL rows i).2 with
    | true =>
      rw [hst.1 hq, List.length_set]
      exact ⟨by omega, key _ ih2 _⟩
    | false =>
      rw [hst.2 hq, List.length_set, List.length_append, List.length_singleton]
      refine ⟨by omega, key _ (fun l hl => ?_) _⟩
      rcases List.mem_append.1 hl with q | q
      · exact ih2 l q
      · rw [List.mem_singleton] at q; subst q
        exact ⟨Nat.zero_le _, R32_mem.2 fun c hc => by cases hc⟩

/-- The first i lines trimmed. -/
def trimN (ls : List (List Ce)) (i : Nat) : List (List Ce) := (ls.take i).map trimL ++ ls.drop i
theorem trimN_len (ls : List (List Ce)) (i : Nat) : (trimN ls i).length = ls.length := by
  unfold trimN
  rw [List.length_append, List.length_map, List.length_take, List.length_drop]; omega
theorem trimN_at {ls : List (List Ce)} {i : Nat} (h : i < ls.length) : (trimN ls i).getD i [] = ls.getD i [] := by
  unfold trimN
  rw [List.getD_eq_getElem?_getD, List.getElem?_append_right (by rw [List.length_map, List.length_take]; omega), List.length_map, List.length_take, List.getElem?_drop, List.getD_eq_getElem?_getD]
  congr 2; omega
theorem trimN_S {ls : List (List Ce)} {i : Nat} (h : i < ls.length) : trimN ls (i + 1) = (trimN ls i).set i (trimL (ls.getD i [])) := by
  have e : ls.drop i = ls.getD i [] :: ls.drop (i + 1) := by
    rw [List.drop_eq_getElem_cons h, List.getD_eq_getElem?_getD, List.getElem?_eq_getElem h]; rfl
  unfold trimN
  have hl : ((ls.take i).map trimL).length = i := by rw [List.length_map, List.length_take]; omega
  rw [take_succD [] h, List.map_append, List.set_append_right _ _ (by omega), hl, Nat.sub_self, e]
  simp
theorem trimN_all (ls : List (List Ce)) : trimN ls ls.length = ls.map trimL := by
  unfold trimN
  rw [List.take_length, List.drop_length, List.append_nil]
theorem LinesLv.set {H H' : AHeap} {lo : Nat} {x : AV} {es : List (List AV)} {ls : List (List Ce)} (h : LinesLv H lo x es ls) (hn : H.next ≤ H'.next) (hg : ∀ k, k < H.next → ¬ nmO x k → H'.get k = H.get k) (i : Nat) (hi : i < ls.length) {A : AV} {l : List Ce} (hA : Sl 3 A (cesA l)) : LinesLv H' lo x (es.set i [A]) (ls.set i l) := by
  have hl := h.1
  refine ⟨by rw [List.length_set, List.length_set, hl], fun j hj => ?_⟩
  rw [List.length_set] at hj
  rw [getD_setN ls l [] i j hj]
  have e : nth [] (es.set i [A]) j = if j = i then [A] else nth [] es j := by
    rw [nth_getD, getD_setN es [A] [] i j (by omega), nth_getD]
  rw [e]
  by_cases q : j = i
  · rw [if_pos q, if_pos q]
    exact ⟨A, rfl, .inl hA, fun k hk => (hA.nmO hk).elim⟩
  · rw [if_neg q, if_neg q]
    obtain ⟨B, h1, h2, h3⟩ := h.2 j hj
    exact ⟨B, h1, h2.on hn (fun k hk hlk => hg k hlk (h3 k hk).2), h3⟩
theorem Nest.lines {H : AHeap} {base lo : Nat} {x : AV} {es : List (List AV)} {ls : List (List Ce)} (h : Nest H base x es ls) (hs : ∀ j, j < es.length → nth [] es j = [bOf es j]) (hb : lo ≤ base) : LinesLv H lo x es ls :=
  ⟨h.len, fun j hj => ⟨bOf es j, hs j (by rw [h.len]; exact hj), (h.ow j hj).slh, fun k hk => ⟨by have := ((h.ow j hj).nm hk).1; omega, h.nx j hj k hk⟩⟩⟩
section
variable {ys : List (Nat × LRec)} {lo : Nat} {H : AHeap} {A : AV} {es : List (List AV)} {rows : List Rw}
theorem refJoin_run (hA : SlH H 2 A es) (hr : RsP es rows) (hrl : rows.length < 2 ^ 11) : CallRoE (ELo oc) ys lo 29 [A] H fun x => ∃ es', Sl 1 x es' ∧ LsP es' (joinL rows) := by
  refine WC.pureE rfl fun lo' H' hh => ?_
  have hA' := hA.two (.inr ⟨[], .inr (by simp)⟩) hh
  have hlo := lo_two hh
  have hOf := fun ys G (x : Ext H' G) => refOf_run (ys := ys) (lo := lo') (hA'.ext x) hr (by omega)
  have ixI : ∀ G z, 0 ≤ z → z < (rows.length : Int) → primL lo' G (indexAddrA (ELo oc) 59 (intA (lineN rows rows.length)) (.v (.int .i64 z))) = some (ixA (intA (lineN rows rows.length)) (intE (lineN rows rows.length)) z.toNat, G, ⟨0, 0, 0⟩) := fun G z z0 z1 => by
    rw [ix_SlH (ELo oc) lo' 59 .i64 z (.inl (intA_Sl _)) (by kernel_rfl) z0 (by rw [intE_len, lineN_len]; exact z1), rdTr_Sl (intA_Sl _)]
  have ldI : ∀ G j, j < rows.length → primL lo' G (loadA (ELo oc) 3 (ixA (intA (lineN rows rows.length)) (intE (lineN rows rows.length)) j)) = some (.v (.int .i64 ((ofN rows j).1 : Nat)), G, ⟨0, 0, 0⟩) := fun G j hj => by
    rw [load_SlH (ELo oc) lo' 3 j (.inl (intA_Sl _)) (by rw [intE_len, lineN_len]; exact hj), nth_intE _ _ (by rw [lineN_len]; exact hj), lineN_at _ _ _ hj, rdTr_Sl (intA_Sl _)]; rfl
  generalize intA (lineN rows rows.length) = LI at *
  generalize intE (lineN rows rows.length) = LE at *
  refine zvin Tryz.func29 Tryz.ntmps29 ?_
  repeat' (first | refine zka ?_ | refine zkb ?_ | (apply RKp.op; ((try simp (disch := (first | omega | exact zX | exact zO | fail)) only [lenR lo' hA' hr, go_sem, Nat.reduceDiv, Nat.reduceMod, Nat.reduceAdd, Nat.reduceSub, Nat.reduceEqDiff, Nat.reduceLeDiff, Nat.reduceLT, Nat.reduceMul, reduceIte, Nat.reducePow, Int.reduceEq]); exact zL); rfl) | (apply RKp.callR; (apply hOf <;> (exact zD)); rfl; intro tr htr) | refine zkc ?_ | apply RKg.tt | apply RKg.ff | refine zkd ?_ | refine zke ?_ | refine zkf ?_ | (refine RKg.split (fun h => ?_) (fun h => ?_) <;> (try rw [h]) <;> (replace h := zB h) <;> (try (exfalso; first | exact h | omega))) | apply RK.nil | apply V.sq | apply V.bl | apply V.sc | apply V.skip | apply V.label | apply V.ret | apply V.exit | apply SeqQ.normal | apply SeqQ.ret | apply SeqQ.exit | apply BlockQ.normal | apply BlockQ.ret | apply BlockQ.here | refine zbt ?_ | apply LoopS.ret | apply LoopS.exit | apply LoopF.ret | apply LoopF.exit | apply V.regK | refine zva ?_ | refine zvb ?_ | refine zgc ?_ | refine zvd ?_ | refine zve ?_ | (refine zvf (fun h => ?_) (fun h => ?_) <;> (replace h := zB h) <;> (try (exfalso; first | exact h | omega))) | (refine zfc Tryz.results29 ?_; (try dsimp only)))
  apply V.lpS [6, 3, 13, 14, 15, 16, 17, 18, 19, 20, 21, 22, 23, 24, 25, 26, 27, 28, 29, 30, 31, 32, 33, 34, 35, 36, 37, 38, 39, 40, 41, 42, 43, 44, 45, 46, 47] (fun k xs H2 => ∃ (i : Nat) (x : AV) (es' : List (List AV)) (g : _), xs = .v (.int .i64 i) :: x :: g ∧ k = rows.length - i ∧ i ≤ rows.length ∧ Ext H' H2 ∧ OwS H2 H'.next 41 1 x es' ∧ Nest H2 H'.next x es' (rawL rows i).1 ∧ (∀ j, j < es'.length → nth [] es' j = [bOf es' j]) ∧ (es' = [] → x = nilA)) rows.length
  focus (intro xs; simp only [putMany, set2, Nat.reduceAdd, Nat.reduceDiv, Nat.reduceMod, nth_zero, nth_succ, List.set_cons_zero, List.set_cons_succ]; rfl)
  focus (first | rfl | simp only [readMany, nth_zero, nth_succ, Nat.reduceDiv, Nat.reduceMod])
  · exact ⟨0, _, [], _, rfl, rfl, Nat.zero_le _, Ext.refl _, OwS.nil _ _ _ _, Nest.nil, fun j hj => absurd hj (Nat.not_lt_zero _), fun _ => rfl⟩
  · rintro k xs H2 ⟨i, x, es', g, rfl, rfl, hi, hx, ho, hnst, hsg0, h0⟩
    have hn2 := hx.next
    have hlen := hnst.len
    obtain ⟨hb1, hb2⟩ := raw_bd hr i hi
    by_cases hlt : i < rows.length
    · have hsg := fun ys G => refSigns_run (ys := ys) (lo := lo') (H := G) (wr := (rows.getD i noRw).2) (.inl (hr.sl i hlt)) (by have := hr.lt i hlt; omega) (hr.r32 i hlt)
      have h300 := sigR_300 ((rows.getD i noRw).1, (rows.getD i noRw).2)
      have hrl' := raw_len rows i (by omega)
      have hst := raw_step rows i hlt
      have hgb : ∀ j, ((rawL rows i).1.getD j []).length ≤ i * 300 := fun j => by
        rw [List.getD_eq_getElem?_getD]
        rcases Nat.lt_or_ge j (rawL rows i).1.length with q | q
        · rw [List.getElem?_eq_getElem q]; exact (hb2 _ (List.getElem_mem q)).1
        · rw [List.getElem?_eq_none q]; exact Nat.zero_le _
      cases hq : (rawL rows i).2 with
      | true =>
        have hl1 := hrl'.1 hq
        have hs1 := hst.1 hq
        generalize hls : (rawL rows i).1 = lsc at *
        rcases ho with ⟨z, _⟩ | ⟨n, e, hxe, hbn, hnl, gnc⟩
        · rw [z] at hlen; simp at hlen; omega
        · subst hxe
          have nst := hnst
          have hsing := hsg0
          have hxc := hx
          have hjl : (ofN rows i).1 < lsc.length := by omega
          have hgj := hgb (ofN rows i).1
          generalize hec : es' = esc at *
          generalize hL : esc.length = L at *
          have hL := hL.symm
          obtain ⟨A', H4, tr4, hap2, hoA, hnx4, hfr4, hnm4⟩ := nst.growN lo' (ofN rows i).1 hjl (by omega) (by omega) (slA_Sl (sigR ((rows.getD i noRw).1, (rows.getD i noRw).2))) (by omega)
          have gn4 : H4.get n = some ⟨41, 1, e, esc, none⟩ := by rw [hfr4 n hnl (fun z => nst.nx _ hjl n z ⟨_, _, _, rfl⟩)]; exact gnc
          have nst' : Nest (H4.set n ⟨41, 1, e, esc.set (ofN rows i).1 [A'], none⟩) H'.next (.os n e 0 L) (esc.set (ofN rows i).1 [A']) (lsc.set (ofN rows i).1 (lsc.getD (ofN rows i).1 [] ++ sigR (rows.getD i noRw))) :=
            nst.put _ hjl (c := [A']) (by rw [next_set]; omega) (hoA.onN (by rw [next_set]; exact Nat.le_refl _) (fun k hk => by
                have hne : n ≠ k := fun z => by
                  rcases hnm4 k hk with y | y
                  · exact nst.nx _ hjl k y ⟨_, _, _, by rw [z]⟩
                  · omega
                rw [get_set, if_neg hne])) (fun k h1 h2 h3 h4 => by rw [get_set, if_neg (fun z => h3 ⟨_, _, _, by rw [z]⟩), hfr4 k h2 h4]) hnm4 (fun k hk => by
                obtain ⟨_, _, _, e⟩ := hk
                cases e; exact hnl)
          have hx4 : Ext H' (H4.set n ⟨41, 1, e, esc.set (ofN rows i).1 [A'], none⟩) := ⟨by rw [next_set]; omega, fun k hk => by rw [get_set, if_neg (by omega), hfr4 k (by omega) (fun z => by have := ((nst.ow _ hjl).nm z).1; omega), hxc.get k hk]⟩
          have ho4 : OwS (H4.set n ⟨41, 1, e, esc.set (ofN rows i).1 [A'], none⟩) H'.next 41 1 (.os n e 0 L) (esc.set (ofN rows i).1 [A']) := .inr ⟨n, e, by rw [List.length_set, hL], hbn, by rw [next_set]; omega, by rw [get_set, if_pos rfl]⟩
          have hs4 : ∀ j, j < (esc.set (ofN rows i).1 [A']).length → nth [] (esc.set (ofN rows i).1 [A']) j = [bOf (esc.set (ofN rows i).1 [A']) j] := fun j hj => by
            rw [List.length_set] at hj
            rw [bOf_set _ _ _ _ hj, nth_getD, getD_setN _ _ _ _ _ hj]
            by_cases q : j = (ofN rows i).1
            · rw [if_pos q, if_pos q]; rfl
            · rw [if_neg q, if_neg q, ← nth_getD]; exact hsing j (by omega)
          have f0 : List.take L esc = esc := by rw [hL]; exact List.take_length
          have hcA := hoA.cells
          have hlc := nst.len
          have f1 := hsing (ofN rows i).1 (by omega)
          repeat' (first | refine zka ?_ | refine zkb ?_ | (apply RKp.op; ((try simp (disch := (first | omega | exact zX | exact zO | fail)) only [lenR lo' hA' hr, ixR lo' hA' hr, ldR lo' hA' hr, ixI, ldI, gnc, gn4, hap2, hcA, f0, f1, Int.toNat_natCast, go_sem, Nat.reduceDiv, Nat.reduceMod, Nat.reduceAdd, Nat.reduceSub, Nat.reduceEqDiff, Nat.reduceLeDiff, Nat.reduceLT, Nat.reduceMul, reduceIte, Nat.reducePow, Int.reduceEq]); exact zL); rfl) | (apply RKp.callR; (apply hsg <;> (exact zD)); rfl; intro tr htr) | refine zkc ?_ | apply RKg.tt | apply RKg.ff | refine zkd ?_ | refine zke ?_ | refine zkf ?_ | (refine RKg.split (fun h => ?_) (fun h => ?_) <;> (try rw [h]) <;> (replace h := zB h) <;> (try (exfalso; first | exact h | omega))) | apply RK.nil | apply V.sq | apply V.bl | apply V.sc | apply V.skip | apply V.label | apply V.ret | apply V.exit | apply SeqQ.normal | apply SeqQ.ret | apply SeqQ.exit | apply BlockQ.normal | apply BlockQ.ret | apply BlockQ.here | refine zbt ?_ | apply LoopS.ret | apply LoopS.exit | apply LoopF.ret | apply LoopF.exit | apply V.regK | refine zva ?_ | refine zvb ?_ | refine zgc ?_ | refine zvd ?_ | refine zve ?_ | (refine zvf (fun h => ?_) (fun h => ?_) <;> (replace h := zB h) <;> (try (exfalso; first | exact h | omega))) | (refine zfc Tryz.results29 ?_; (try dsimp only)))
          exact LoopS.again (rows.length - (i + 1)) (by rfl) (by omega) ⟨i + 1, _, esc.set (ofN rows i).1 [A'], _, rfl, rfl, by omega, hx4, ho4, by rw [hs1]; exact nst', hs4, fun z => by have := congrArg List.length z; rw [List.length_set, List.length_nil] at this; omega⟩
      | false =>
        have hl1 := hrl'.2 hq
        have hs1 := hst.2 hq
        have lenX : ∀ G, Ext H2 G → primL lo' G (builtinA (ELo oc) .len #[23] 3 [x]) = some (.v (.int .i64 es'.length), G, rdTr x) := fun G hG => len_SlH (ELo oc) lo' 23 3 (ho.slh.ext hG) (by kernel_rfl)
        obtain ⟨x', H3, tr3, hap1, ho3, hnx3, hfr3, hnm3⟩ := ho.push1 (ELo oc) lo' app_line (by omega) (by omega) (by unfold roomMax; omega) [.v (.slice none 0 0)]
        have nst3 : Nest H3 H'.next x' (es' ++ [[AV.v (.slice none 0 0)]]) ((rawL rows i).1 ++ [[]]) := (hnst.on (by omega) (fun k h1 h2 h3 => hfr3 k h2 h3) (fun k hk => hnm3 k hk)).add (OwS.nil _ _ _ _) (fun k hk => by obtain ⟨_, _, _, e⟩ := hk; cases e)
        have hx3 : Ext H' H3 := ⟨by omega, fun k hk => by rw [hfr3 k (by omega) (fun z => by have := (ho.nm z).1; omega), hx.get k hk]⟩
        have hs3 : ∀ j, j < (es' ++ [[AV.v (.slice none 0 0)]]).length → nth [] (es' ++ [[AV.v (.slice none 0 0)]]) j = [bOf (es' ++ [[AV.v (.slice none 0 0)]]) j] := fun j hj => by
          rw [List.length_append, List.length_singleton] at hj
          rw [bOf_add, nth_app1]
          by_cases q : j < es'.length
          · rw [if_pos q, if_pos q]; exact hsg0 j q
          · rw [if_neg q, if_neg q, if_pos (by omega), if_pos (by omega)]; rfl
        rcases ho3 with ⟨z, _⟩ | ⟨n, e, hxe, hbn, hnl, gnc⟩
        · simp at z
        · subst hxe
          have hgj : (((rawL rows i).1 ++ [[]]).getD (ofN rows i).1 []).length = 0 := by
            rw [hl1, List.getD_eq_getElem?_getD, List.getElem?_append_right (Nat.le_refl _), Nat.sub_self]; rfl
          have hjl : (ofN rows i).1 < ((rawL rows i).1 ++ [[]]).length := by rw [List.length_append, List.length_singleton]; omega
          generalize hls : (rawL rows i).1 ++ [[]] = lsc at *
          have nst := nst3
          have hsing := hs3
          have hxc := hx3
          generalize hec : es' ++ [[AV.v (.slice none 0 0)]] = esc at *
          generalize hL : esc.length = L at *
          have hL := hL.symm
          obtain ⟨A', H4, tr4, hap2, hoA, hnx4, hfr4, hnm4⟩ := nst.growN lo' (ofN rows i).1 hjl (by omega) (by omega) (slA_Sl (sigR ((rows.getD i noRw).1, (rows.getD i noRw).2))) (by omega)
          have gn4 : H4.get n = some ⟨41, 1, e, esc, none⟩ := by rw [hfr4 n hnl (fun z => nst.nx _ hjl n z ⟨_, _, _, rfl⟩)]; exact gnc
          have nst' : Nest (H4.set n ⟨41, 1, e, esc.set (ofN rows i).1 [A'], none⟩) H'.next (.os n e 0 L) (esc.set (ofN rows i).1 [A']) (lsc.set (ofN rows i).1 (lsc.getD (ofN rows i).1 [] ++ sigR (rows.getD i noRw))) :=
            nst.put _ hjl (c := [A']) (by rw [next_set]; omega) (hoA.onN (by rw [next_set]; exact Nat.le_refl _) (fun k hk => by
                have hne : n ≠ k := fun z => by
                  rcases hnm4 k hk with y | y
                  · exact nst.nx _ hjl k y ⟨_, _, _, by rw [z]⟩
                  · omega
                rw [get_set, if_neg hne])) (fun k h1 h2 h3 h4 => by rw [get_set, if_neg (fun z => h3 ⟨_, _, _, by rw [z]⟩), hfr4 k h2 h4]) hnm4 (fun k hk => by
                obtain ⟨_, _, _, e⟩ := hk
                cases e; exact hnl)
          have hx4 : Ext H' (H4.set n ⟨41, 1, e, esc.set (ofN rows i).1 [A'], none⟩) := ⟨by rw [next_set]; omega, fun k hk => by rw [get_set, if_neg (by omega), hfr4 k (by omega) (fun z => by have := ((nst.ow _ hjl).nm z).1; omega), hxc.get k hk]⟩
          have ho4 : OwS (H4.set n ⟨41, 1, e, esc.set (ofN rows i).1 [A'], none⟩) H'.next 41 1 (.os n e 0 L) (esc.set (ofN rows i).1 [A']) := .inr ⟨n, e, by rw [List.length_set, hL], hbn, by rw [next_set]; omega, by rw [get_set, if_pos rfl]⟩
          have hs4 : ∀ j, j < (esc.set (ofN rows i).1 [A']).length → nth [] (esc.set (ofN rows i).1 [A']) j = [bOf (esc.set (ofN rows i).1 [A']) j] := fun j hj => by
            rw [List.length_set] at hj
            rw [bOf_set _ _ _ _ hj, nth_getD, getD_setN _ _ _ _ _ hj]
            by_cases q : j = (ofN rows i).1
            · rw [if_pos q, if_pos q]; rfl
            · rw [if_neg q, if_neg q, ← nth_getD]; exact hsing j (by omega)
          have f0 : List.take L esc = esc := by rw [hL]; exact List.take_length
          have hcA := hoA.cells
          have hlc := nst.len
          have f1 := hsing (ofN rows i).1 (by omega)
          repeat' (first | refine zka ?_ | refine zkb ?_ | (apply RKp.op; ((try simp (disch := (first | omega | exact zX | exact zO | fail)) only [lenR lo' hA' hr, ixR lo' hA' hr, ldR lo' hA' hr, ixI, ldI, gnc, gn4, hap1, hap2, lenX, hcA, f0, f1, Int.toNat_natCast, go_sem, Nat.reduceDiv, Nat.reduceMod, Nat.reduceAdd, Nat.reduceSub, Nat.reduceEqDiff, Nat.reduceLeDiff, Nat.reduceLT, Nat.reduceMul, reduceIte, Nat.reducePow, Int.reduceEq]); exact zL); rfl) | (apply RKp.callR; (apply hsg <;> (exact zD)); rfl; intro tr htr) | refine zkc ?_ | apply RKg.tt | apply RKg.ff | refine zkd ?_ | refine zke ?_ | refine zkf ?_ | (refine RKg.split (fun h => ?_) (fun h => ?_) <;> (try rw [h]) <;> (replace h := zB h) <;> (try (exfalso; first | exact h | omega))) | apply RK.nil | apply V.sq | apply V.bl | apply V.sc | apply V.skip | apply V.label | apply V.ret | apply V.exit | apply SeqQ.normal | apply SeqQ.ret | apply SeqQ.exit | apply BlockQ.normal | apply BlockQ.ret | apply BlockQ.here | refine zbt ?_ | apply LoopS.ret | apply LoopS.exit | apply LoopF.ret | apply LoopF.exit | apply V.regK | refine zva ?_ | refine zvb ?_ | refine zgc ?_ | refine zvd ?_ | refine zve ?_ | (refine zvf (fun h => ?_) (fun h => ?_) <;> (replace h := zB h) <;> (try (exfalso; first | exact h | omega))) | (refine zfc Tryz.results29 ?_; (try dsimp only)))
          exact LoopS.again (rows.length - (i + 1)) (by rfl) (by omega) ⟨i + 1, _, esc.set (ofN rows i).1 [A'], _, rfl, rfl, by omega, hx4, ho4, by rw [hs1]; exact nst', hs4, fun z => by have := congrArg List.length z; rw [List.length_set, List.length_nil] at this; omega⟩
    · have e : i = rows.length := by omega
      subst e
      have hrj := raw_join rows
      have hrw : rawL rows rows.length = rawF ([], false) rows := by unfold rawL; rw [List.take_length]
      rw [← hrw] at hrj
      generalize hls : (rawL rows rows.length).1 = ls at *
      repeat' (first | refine zka ?_ | refine zkb ?_ | (apply RKp.op; ((try simp (disch := (first | omega | exact zX | exact zO | fail)) only [lenR lo' hA' hr, go_sem, Nat.reduceDiv, Nat.reduceMod, Nat.reduceAdd, Nat.reduceSub, Nat.reduceEqDiff, Nat.reduceLeDiff, Nat.reduceLT, Nat.reduceMul, reduceIte, Nat.reducePow, Int.reduceEq]); exact zL); rfl) | refine zkc ?_ | apply RKg.tt | apply RKg.ff | refine zkd ?_ | refine zke ?_ | refine zkf ?_ | (refine RKg.split (fun h => ?_) (fun h => ?_) <;> (try rw [h]) <;> (replace h := zB h) <;> (try (exfalso; first | exact h | omega))) | apply RK.nil | apply V.sq | apply V.bl | apply V.sc | apply V.skip | apply V.label | apply V.ret | apply V.exit | apply SeqQ.normal | apply SeqQ.ret | apply SeqQ.exit | apply BlockQ.normal | apply BlockQ.ret | apply BlockQ.here | refine zbt ?_ | apply LoopS.ret | apply LoopS.exit | apply LoopF.ret | apply LoopF.exit | apply V.regK | refine zva ?_ | refine zvb ?_ | refine zgc ?_ | refine zvd ?_ | refine zve ?_ | (refine zvf (fun h => ?_) (fun h => ?_) <;> (replace h := zB h) <;> (try (exfalso; first | exact h | omega))) | (refine zfc Tryz.results29 ?_; (try dsimp only)))
      apply V.lpS [7, 48, 49, 50, 51, 52, 53, 54, 55, 56, 57, 58, 59, 60, 61] (fun k xs H3 => ∃ (i2 : Nat) (g : _) (esT : List (List AV)), xs = .v (.int .i64 i2) :: g ∧ k = ls.length - i2 ∧ i2 ≤ ls.length ∧ Ext H' H3 ∧ OwS H3 H'.next 41 1 x esT ∧ LinesLv H3 lo' x esT (trimN ls i2)) ls.length
      focus (intro xs; simp only [putMany, set2, Nat.reduceAdd, Nat.reduceDiv, Nat.reduceMod, nth_zero, nth_succ, List.set_cons_zero, List.set_cons_succ]; rfl)
      focus (first | rfl | simp only [readMany, nth_zero, nth_succ, Nat.reduceDiv, Nat.reduceMod])
      · exact ⟨0, _, es', rfl, rfl, Nat.zero_le _, hx, ho, hnst.lines hsg0 (by omega)⟩
      · rintro k xs H3 ⟨i2, g, esT, rfl, rfl, hi2, hx3, ho3, hv⟩
        have hn3 := hx3.next
        have hlT := hv.1
        rw [trimN_len] at hlT
        have lenX : ∀ G, Ext H3 G → primL lo' G (builtinA (ELo oc) .len #[23] 3 [x]) = some (.v (.int .i64 esT.length), G, rdTr x) := fun G hG => len_SlH (ELo oc) lo' 23 3 (ho3.slh.ext hG) (by kernel_rfl)
        by_cases hlt2 : i2 < ls.length
        · obtain ⟨A0, q1, q2, q3⟩ := hv.2 i2 (by rw [trimN_len]; exact hlt2)
          rw [trimN_at hlt2] at q2
          have hgl : (ls.getD i2 []).length ≤ rows.length * 300 := by
            rw [List.getD_eq_getElem?_getD, List.getElem?_eq_getElem hlt2]; exact (hb2 _ (List.getElem_mem hlt2)).1
          have hTm := fun ys => refTrim_run (ys := ys) (lo := lo') q2 (by omega)
          rcases ho3 with ⟨z, _⟩ | ⟨n, e, hxe, hbn, hnl, gn⟩
          · rw [z] at hlT; simp at hlT; omega
          · subst hxe
            have hLe := hlT
            generalize hL : esT.length = L at *
            have f0 : List.take L esT = esT := by rw [← hL]; exact List.take_length
            repeat' (first | refine zka ?_ | refine zkb ?_ | (apply RKp.op; ((try simp (disch := (first | omega | exact zX | exact zO | fail)) only [gn, lenX, q1, f0, Int.toNat_natCast, go_sem, Nat.reduceDiv, Nat.reduceMod, Nat.reduceAdd, Nat.reduceSub, Nat.reduceEqDiff, Nat.reduceLeDiff, Nat.reduceLT, Nat.reduceMul, reduceIte, Nat.reducePow, Int.reduceEq]); exact zL); rfl) | (apply RKp.callRE; (apply hTm <;> (exact zD)); (intro x; rfl)) | refine zkc ?_ | apply RKg.tt | apply RKg.ff | refine zkd ?_ | refine zke ?_ | refine zkf ?_ | (refine RKg.split (fun h => ?_) (fun h => ?_) <;> (try rw [h]) <;> (replace h := zB h) <;> (try (exfalso; first | exact h | omega))) | apply RK.nil | apply V.sq | apply V.bl | apply V.sc | apply V.skip | apply V.label | apply V.ret | apply V.exit | apply SeqQ.normal | apply SeqQ.ret | apply SeqQ.exit | apply BlockQ.normal | apply BlockQ.ret | apply BlockQ.here | refine zbt ?_ | apply LoopS.ret | apply LoopS.exit | apply LoopF.ret | apply LoopF.exit | apply V.regK | refine zva ?_ | refine zvb ?_ | refine zgc ?_ | refine zvd ?_ | refine zve ?_ | (refine zvf (fun h => ?_) (fun h => ?_) <;> (replace h := zB h) <;> (try (exfalso; first | exact h | omega))) | (refine zfc Tryz.results29 ?_; (try dsimp only)))
            rintro y trq htrq hy
            have hcy : cellsOf y = some [y] := cells_SlH (H := H3) (.inl hy)
            repeat' (first | refine zka ?_ | refine zkb ?_ | (apply RKp.op; ((try simp (disch := (first | omega | exact zX | exact zO | fail)) only [gn, hcy, q1, hL, f0, Int.toNat_natCast, go_sem, Nat.reduceDiv, Nat.reduceMod, Nat.reduceAdd, Nat.reduceSub, Nat.reduceEqDiff, Nat.reduceLeDiff, Nat.reduceLT, Nat.reduceMul, reduceIte, Nat.reducePow, Int.reduceEq]); exact zL); rfl) | refine zkc ?_ | apply RKg.tt | apply RKg.ff | refine zkd ?_ | refine zke ?_ | refine zkf ?_ | (refine RKg.split (fun h => ?_) (fun h => ?_) <;> (try rw [h]) <;> (replace h := zB h) <;> (try (exfalso; first | exact h | omega))) | apply RK.nil | apply V.sq | apply V.bl | apply V.sc | apply V.skip | apply V.label | apply V.ret | apply V.exit | apply SeqQ.normal | apply SeqQ.ret | apply SeqQ.exit | apply BlockQ.normal | apply BlockQ.ret | apply BlockQ.here | refine zbt ?_ | apply LoopS.ret | apply LoopS.exit | apply LoopF.ret | apply LoopF.exit | apply V.regK | refine zva ?_ | refine zvb ?_ | refine zgc ?_ | refine zvd ?_ | refine zve ?_ | (refine zvf (fun h => ?_) (fun h => ?_) <;> (replace h := zB h) <;> (try (exfalso; first | exact h | omega))) | (refine zfc Tryz.results29 ?_; (try dsimp only)))
            refine LoopS.again (ls.length - (i2 + 1)) (by rfl) (by omega) ⟨i2 + 1, _, esT.set i2 [y], rfl, rfl, by omega, ⟨by rw [next_set]; omega, fun k hk => by rw [get_set, if_neg (by omega), hx3.get k hk]⟩, .inr ⟨n, e, by rw [List.length_set, hL], hbn, by rw [next_set]; omega, by rw [get_set, if_pos rfl]⟩, ?_⟩
            rw [trimN_S hlt2]
            exact hv.set (by rw [next_set]; exact Nat.le_refl _) (fun k h1 h2 => by rw [get_set, if_neg (fun z => h2 ⟨_, _, _, by rw [z]⟩)]) i2 (by rw [trimN_len]; exact hlt2) hy
        · have e : i2 = ls.length := by omega
          subst e
          rw [trimN_all, hrj] at hv
          repeat' (first | refine zka ?_ | refine zkb ?_ | (apply RKp.op; ((try simp (disch := (first | omega | exact zX | exact zO | fail)) only [lenX, go_sem, Nat.reduceDiv, Nat.reduceMod, Nat.reduceAdd, Nat.reduceSub, Nat.reduceEqDiff, Nat.reduceLeDiff, Nat.reduceLT, Nat.reduceMul, reduceIte, Nat.reducePow, Int.reduceEq]); exact zL); rfl) | refine zkc ?_ | apply RKg.tt | apply RKg.ff | refine zkd ?_ | refine zke ?_ | refine zkf ?_ | (refine RKg.split (fun h => ?_) (fun h => ?_) <;> (try rw [h]) <;> (replace h := zB h) <;> (try (exfalso; first | exact h | omega))) | apply RK.nil | apply V.sq | apply V.bl | apply V.sc | apply V.skip | apply V.label | apply V.ret | apply V.exit | apply SeqQ.normal | apply SeqQ.ret | apply SeqQ.exit | apply BlockQ.normal | apply BlockQ.ret | apply BlockQ.here | refine zbt ?_ | apply LoopS.ret | apply LoopS.exit | apply LoopF.ret | apply LoopF.exit | apply V.regK | refine zva ?_ | refine zvb ?_ | refine zgc ?_ | refine zvd ?_ | refine zve ?_ | (refine zvf (fun h => ?_) (fun h => ?_) <;> (replace h := zB h) <;> (try (exfalso; first | exact h | omega))) | (refine zfc Tryz.results29 ?_; (try dsimp only)))
          all_goals first
            | (exfalso; omega)
            | exact frz_lines ho3 hv (by omega) (fun l hl => by
                have := joinG_bd rows (fun r hr2 => (hr.mem r hr2).1) [] (R32_mem.2 fun c hc => by cases hc) l hl
                rw [List.length_nil] at this
                exact ⟨by omega, this.2⟩)
            | trace_state
end
end Go.Am
