/- Parts of the proof: PStA PStB PStC PStD. -/
import Derived.Test.YtmcimfmibpfnhaaGreatPPkF
import Derived.Test.YtmcimfmibpfnhaaGreatPScr10
set_option linter.all false
set_option linter.deprecated false

namespace Go.Am
variable {oc : Orc} [OrcI oc] [OrcF oc]
open Go.Proofs
set_option maxRecDepth 8000
set_option maxHeartbeats 8000000
def rowB (r : Rw) : List AV := [.sl 1 (bytesL (pkB r.1 r.2))]
def rowsB (l : List Rw) : List (List AV) := l.map rowB
theorem rowsB_len (l : List Rw) : (rowsB l).length = l.length := List.length_map _
theorem rowsB_app (a b : List Rw) : rowsB (a ++ b) = rowsB a ++ rowsB b := List.map_append
theorem nth_rowsB (l : List Rw) (i : Nat) (h : i < l.length) : nth [] (rowsB l) i = rowB (l.getD i noRw) := nth_map _ l i noRw h
theorem app_rowsB : appInfo (ELo oc).P 181 = some (79, 24, 1) := by kernel_rfl
def rwOk (r : Rw) : Prop := rowG r.1 ∧ r.1 ≠ []

/-- A page: its block q, its rows' block m. -/
structure Pg where
  q : Nat
  m : Nat
  e : Nat
  pre : List (List AV)
  l : List Rw
structure PgOk (H : AHeap) (p : Pg) : Prop where
  ql : p.q < H.next
  ml : p.m < H.next
  ne : p.q ≠ p.m
  bq : H.get p.q = some ⟨183, 1, 0, [[.os p.m p.e p.pre.length p.l.length]], none⟩
  bm : H.get p.m = some ⟨79, 1, p.e, p.pre ++ rowsB p.l, none⟩
  ok : ∀ r ∈ p.l, rwOk r
  ln : p.l.length ≤ 16
theorem PgOk.turn {F : Nat → Prop} {H H' : AHeap} {p : Pg} (h : PgOk H p) (t : Turn F H H') (h1 : ¬ F p.q) (h2 : ¬ F p.m) : PgOk H' p :=
  ⟨Nat.lt_of_lt_of_le h.ql t.next, Nat.lt_of_lt_of_le h.ml t.next, h.ne, by rw [t.keep _ h.ql h1]; exact h.bq, by rw [t.keep _ h.ml h2]; exact h.bm, h.ok, h.ln⟩
theorem PgOk.ext {H H' : AHeap} {p : Pg} (h : PgOk H p) (t : Ext H H') : PgOk H' p :=
  ⟨Nat.lt_of_lt_of_le h.ql t.next, Nat.lt_of_lt_of_le h.ml t.next, h.ne, by rw [t.get _ h.ql]; exact h.bq, by rw [t.get _ h.ml]; exact h.bm, h.ok, h.ln⟩
theorem PgOk.sl {H : AHeap} {p : Pg} (h : PgOk H p) : SlH H 1 (.os p.m p.e p.pre.length p.l.length) (rowsB p.l) :=
  .inr ⟨p.m, p.e, p.pre.length, _, by rw [rowsB_len], h.ml, h.bm, rfl, rfl, rfl, by simp, by simp⟩
theorem hands_op0 {H : AHeap} {lo n t sz : Nat} {cs : List AV} (hl : lo ≤ n) (hb : H.get n = some ⟨t, sz, 0, [cs], none⟩) (hf : FlatL cs) : Hands H lo (.op n 0 0 0) (fun m => .op m 0 0 0) fun _ => [⟨t, sz, 0, [cs], none⟩] := by
  have hfe : FlatE [cs] := FlatE.cons hf FlatE.nil
  have hfold : ∀ (cs : List AV) (T : List Nat), FlatL cs → cs.foldl (addN lo) T = T := by
    intro cs
    induction cs with
    | nil => intro T _; rfl
    | cons c cs ih =>
      intro T h
      have hc := h c List.mem_cons_self
      rw [List.foldl_cons]
      have : addN lo T c = T := by cases c <;> first | rfl | cases hc
      rw [this]
      exact ih T fun x hx => h x (List.mem_cons_of_mem _ hx)
  refine ⟨[n], ?_, rfl, all_one hl, fun m => ⟨?_, ?_⟩⟩
  · show (if Nat.blt n lo then [] else match H.get n with
      | some b => b.es.foldl (fun T cs => cs.foldl (addN lo) T) (addN lo [] (.op n 0 0 0))
      | none => []) = _
    have hn : Nat.blt n lo = false := by
      cases h : Nat.blt n lo with
      | false => rfl
      | true => rw [Nat.blt_eq] at h; omega
    rw [hn, hb]
    show [cs].foldl (fun T cs => cs.foldl (addN lo) T) (if Nat.blt n lo || ([] : List Nat).any (Nat.beq n) then [] else [] ++ [n]) = _
    rw [hn]
    exact hfold cs _ hf
  · exact blks_one (e := 0) hb hfe m
  · simp only [renV, ren1, renC, if_neg (Nat.not_lt.2 hl), idxN, if_true, hb, Nat.add_zero]
section
variable {ys : List (Nat × LRec)} {lo : Nat} {H : AHeap} {p : Pg}
abbrev pgBlk (x : AV) : Blk := ⟨183, 1, 0, [[x]], none⟩
theorem pageNew_run : CallN (ELo oc) ys lo 125 [] H (.op H.next 0 0 0) (H.push (pgBlk nilA)) := by
  refine WC.ownN (x := fun b => .op b 0 0 0) (bs := fun _ => [pgBlk nilA]) rfl fun lo' H' hh => ?_
  have hlo := lo_two hh
  refine zvin Tryz.func125 Tryz.ntmps125 ?_
  repeat' (first | refine zka ?_ | refine zkb ?_ | (apply RKp.op; ((try simp (disch := (first | exact zQ | fail)) only [go_sem]); exact zL); rfl) | refine zkc ?_ | refine zz ?_ | refine zkd ?_ | refine zke ?_ | refine zkf ?_ | (refine RKg.split (fun h => ?_) (fun h => ?_) <;> (try rw [h]) <;> (replace h := zB h) <;> (try (exfalso; first | exact h | omega))) | refine zbt ?_ | apply V.regK | refine zvd ?_ | refine zve ?_ | (refine zvf (fun h => ?_) (fun h => ?_) <;> (replace h := zB h) <;> (try (exfalso; first | exact h | omega))) | (refine zfc Tryz.results125 ?_; (try dsimp only)))
  exact hands_op0 (by omega) (by simp (disch := (first | omega | exact zX | fail)) only [get_set, get_push, next_push, next_set, if_pos', if_neg', if_true, if_false, reduceIte]; rfl) (fun x hx => by simp at hx; subst hx; rfl)
theorem pageLen_run (h : PgOk H p) : CallRo (ELo oc) ys lo 124 [.op p.q 0 0 0] H (.v (.int .i64 p.l.length)) := by
  refine WC.pureR rfl fun lo' H' hh => ?_
  obtain ⟨rfl, rfl⟩ := two_op hh List.mem_cons_self
  have hb := h.bq
  have ln := len_SlH (ELo oc) H'.next 181 3 h.sl (by kernel_rfl)
  rw [rowsB_len] at ln
  refine zvin Tryz.func124 Tryz.ntmps124 ?_
  repeat' (first | refine zka ?_ | refine zkb ?_ | (apply RKp.op; ((try simp (disch := (first | exact zQ | fail)) only [hb, ln, go_sem]); exact zL); rfl) | refine zkc ?_ | refine zz ?_ | refine zkd ?_ | refine zke ?_ | refine zkf ?_ | (refine RKg.split (fun h => ?_) (fun h => ?_) <;> (try rw [h]) <;> (replace h := zB h) <;> (try (exfalso; first | exact h | omega))) | refine zbt ?_ | apply V.regK | refine zvd ?_ | refine zve ?_ | (refine zvf (fun h => ?_) (fun h => ?_) <;> (replace h := zB h) <;> (try (exfalso; first | exact h | omega))) | (refine zfc Tryz.results124 ?_; (try dsimp only)))
  rfl
theorem pageAt_run (h : PgOk H p) (i : Nat) (hi : i < p.l.length) : CallRo (ELo oc) ys lo 163 [.op p.q 0 0 0, .v (.int .i64 (i : Int))] H (.tup [.agg [.sl 3 (cesA (p.l.getD i noRw).1), .v (.bool (p.l.getD i noRw).2)], .v (.bool true)]) := by
  refine WC.pureR rfl fun lo' H' hh => ?_
  obtain ⟨rfl, rfl⟩ := two_op hh List.mem_cons_self
  have hb := h.bq
  have hq := h.ql
  have hln := h.ln
  have hsl := fun G (x : Ext H' G) => h.sl.ext x
  have ix := fun G (x : Ext H' G) => ix_SlH (ELo oc) H'.next 181 .i64 (i : Int) (hsl G x) (by kernel_rfl) (by omega) (by rw [rowsB_len]; omega)
  have ld : ∀ G (x : Ext H' G), primL H'.next G (loadA (ELo oc) 79 (ixA (.os p.m p.e p.pre.length p.l.length) (rowsB p.l) i)) = some (.sl 1 (bytesL (pkB (p.l.getD i noRw).1 (p.l.getD i noRw).2)), G, rdTr (.os p.m p.e p.pre.length p.l.length)) := fun G x => by
    rw [load_SlH (ELo oc) H'.next 79 i (hsl G x) (by rw [rowsB_len]; exact hi), nth_rowsB _ _ hi]; rfl
  have hLen := fun ys G (x : Ext H' G) => pageLen_run (ys := ys) (lo := H'.next) (h.ext x)
  have hr := h.ok _ (getMem noRw hi)
  have hGet := fun ys G => Get_run (ys := ys) (lo := H'.next) (H := G) (wr := (p.l.getD i noRw).2) hr.1 hr.2
  have hbG : ∀ b, (H'.push b).get p.q = some ⟨183, 1, 0, [[.os p.m p.e p.pre.length p.l.length]], none⟩ := fun b => by rw [get_push, if_neg (by omega)]; exact hb
  refine zvin Tryz.func163 Tryz.ntmps163 ?_
  repeat' (first | refine zka ?_ | refine zkb ?_ | (apply RKp.op; ((try simp (disch := (first | exact zQ | fail)) only [hb, hbG, ix, ld, Int.toNat_natCast, go_sem]); exact zL); rfl) | (apply RKp.callR; ((first | apply hLen | apply hGet) <;> (exact zD)); rfl; intro tr htr) | refine zkc ?_ | refine zz ?_ | refine zkd ?_ | refine zke ?_ | refine zkf ?_ | (refine RKg.split (fun h => ?_) (fun h => ?_) <;> (try rw [h]) <;> (replace h := zB h) <;> (try (exfalso; first | exact h | omega))) | refine zbt ?_ | apply V.regK | refine zvd ?_ | refine zve ?_ | (refine zvf (fun h => ?_) (fun h => ?_) <;> (replace h := zB h) <;> (try (exfalso; first | exact h | omega))) | (refine FnQ.retB (resct Tryz.results163) (by simp (disch := (first | exact zQ | fail)) only [cellR_op, hb, hbG, ix, ld, Int.toNat_natCast, go_sem]; rfl) ?_; (try dsimp only)))
  rfl
theorem pageCut_run (h : PgOk H p) (hlo : lo ≤ p.q) (k : Nat) (hk : k ≤ p.l.length) : CallO (ELo oc) ys lo 162 [.op p.q 0 0 0, .v (.int .i64 (k : Int))] H (.v (.bool true)) (H.set p.q (pgBlk (.os p.m p.e (p.pre.length + k) (p.l.length - k)))) := by
  refine WC.effO rfl ?_
  have hb := h.bq
  have hln := h.ln
  have ln := len_SlH (ELo oc) lo 181 3 h.sl (by kernel_rfl)
  have sl := slice_SlH (ELo oc) lo (t := 181) (size := 1) (by kernel_rfl) h.sl (some (.v (.int .i64 (k : Int)))) none (l := k) (r := p.l.length) (by rw [bound_some _ _ _ (by omega), Int.toNat_natCast]) (by rw [bound_none, rowsB_len]) hk (by rw [rowsB_len]; exact Nat.le_refl _)
  rw [rowsB_len] at ln
  unfold cutA at sl
  dsimp only at sl
  refine zvin Tryz.func162 Tryz.ntmps162 ?_
  repeat' (first | refine zka ?_ | refine zkb ?_ | (apply RKp.op; ((try simp (disch := (first | exact zQ | fail)) only [hb, ln, sl, go_sem]); exact zL); rfl) | refine zkc ?_ | refine zz ?_ | refine zkd ?_ | refine zke ?_ | refine zkf ?_ | (refine RKg.split (fun h => ?_) (fun h => ?_) <;> (try rw [h]) <;> (replace h := zB h) <;> (try (exfalso; first | exact h | omega))) | refine zbt ?_ | apply V.regK | refine zvd ?_ | refine zve ?_ | (refine zvf (fun h => ?_) (fun h => ?_) <;> (replace h := zB h) <;> (try (exfalso; first | exact h | omega))) | (refine zfc Tryz.results162 ?_; (try dsimp only)))
  exact ⟨rfl, rfl⟩

/-- A page that was cut. -/
def Pg.cut (p : Pg) (k : Nat) : Pg := { p with pre := p.pre ++ rowsB (p.l.take k), l := p.l.drop k }
theorem PgOk.cut (h : PgOk H p) (k : Nat) (hk : k ≤ p.l.length) : PgOk (H.set p.q (pgBlk (.os p.m p.e (p.pre.length + k) (p.l.length - k)))) (p.cut k) := by
  have e1 : (p.pre ++ rowsB (p.l.take k)).length = p.pre.length + k := by rw [List.length_append, rowsB_len, List.length_take, Nat.min_eq_left hk]
  refine ⟨h.ql, h.ml, h.ne, ?_, ?_, fun r hr => h.ok r (List.mem_of_mem_drop hr), ?_⟩
  · show ((H.set p.q _).get p.q) = some (pgBlk (.os p.m p.e (p.pre ++ rowsB (p.l.take k)).length (p.l.drop k).length))
    rw [get_set, if_pos rfl, e1, List.length_drop]
  · show ((H.set p.q _).get p.m) = _
    rw [get_set, if_neg h.ne, h.bm]
    show _ = some (⟨79, 1, p.e, (p.pre ++ rowsB (p.l.take k)) ++ rowsB (p.l.drop k), none⟩ : Blk)
    rw [List.append_assoc, ← rowsB_app, List.take_append_drop]
  · have := h.ln
    show (p.l.drop k).length ≤ 16
    rw [List.length_drop]; omega

/-- A row behind a page's. -/
theorem pageAdd_run (hP0 : PgOk H p) (hlo : lo ≤ p.q) (hlm : lo ≤ p.m) (hl : p.l.length < 16) (r : Rw) (hr : rwOk r) : CallE (ELo oc) ys lo 126 [.op p.q 0 0 0, rowA (.sl 3 (cesA r.1)) r.2] H fun x H' => x = .v (.bool true) ∧ PgOk H' ⟨p.q, p.m, p.e + 1, [], p.l ++ [r]⟩ ∧ Turn (fun k => k = p.q ∨ k = p.m) H H' := by
  refine WC.effE rfl ?_
  have hb := hP0.bq
  have hbm := hP0.bm
  have hq := hP0.ql
  have hm := hP0.ml
  have hne := hP0.ne
  have hnq : ¬ H.next = p.q := by omega
  have hnm : ¬ H.next = p.m := by omega
  have hP := fun ys G => Put_run (ys := ys) (lo := lo) (H := G) (wr := r.2) (.inl (.inl rfl)) hr.1 hr.2
  have hbG : ∀ b, (H.push b).get p.q = some ⟨183, 1, 0, [[.os p.m p.e p.pre.length p.l.length]], none⟩ := fun b => by rw [get_push, if_neg hnq]; exact hb
  have hbG2 : ∀ b b', ((H.push b).push b').get p.q = some ⟨183, 1, 0, [[.os p.m p.e p.pre.length p.l.length]], none⟩ := fun b b' => by rw [get_push, if_neg (by (first | omega | (simp only [next_push, next_set, next_empty]; done) | (simp only [next_push, next_set, next_empty]; omega)))]; exact hbG b
  have ln := fun G (x : Ext H G) => len_SlH (ELo oc) lo 181 3 (hP0.sl.ext x) (by kernel_rfl)
  rw [rowsB_len] at ln
  generalize hbr : (⟨48, 2, 0, [[.sl 3 (cesA r.1), .v (.bool r.2)]], none⟩ : Blk) = br
  generalize hbb : (⟨79, 1, 0, [[.sl 1 (bytesL (pkB r.1 r.2))]], none⟩ : Blk) = bb
  have e1 : (H.push br).next = H.next + 1 := rfl
  obtain ⟨tr, hap⟩ := append_os (ELo oc) lo (t := 181) (H := (H.push br).push bb) (n := p.m) (e := p.e) (off := p.pre.length) (len := p.l.length) (x := .os (H.next + 1) 0 0 1) (es := [rowB r]) app_rowsB (by rw [get_push, if_neg (by rw [e1]; omega), get_push, if_neg hnm]; exact hbm) ⟨rfl, rfl, by simp [rowsB_len], rfl, rfl⟩ (.inr ⟨H.next + 1, 0, 0, bb, rfl, by (first | omega | (simp only [next_push, next_set, next_empty]; done) | (simp only [next_push, next_set, next_empty]; omega)), by rw [get_push, if_pos e1], by rw [← hbb], by rw [← hbb], by rw [← hbb], by rw [← hbb]; simp, by rw [← hbb]; rfl⟩) (fun m' e' off' len' z => by cases z; omega) (by simp) (by unfold roomMax; simp; omega) hlm
  have e2 : ((p.pre ++ rowsB p.l).drop p.pre.length).take p.l.length ++ [rowB r] = rowsB (p.l ++ [r]) := by
    rw [List.drop_left, List.take_of_length_le (by rw [rowsB_len]; exact Nat.le_refl _), rowsB_app]; rfl
  rw [e2] at hap
  simp only [List.length_singleton] at hap
  subst hbr hbb
  refine zvin Tryz.func126 Tryz.ntmps126 ?_
  repeat' (first | refine zka ?_ | refine zkb ?_ | (apply RKp.op; ((try simp (disch := (first | exact zQ | fail)) only [hb, hbG, hbG2, ln, hap, go_sem]); exact zL); rfl) | (apply RKp.callR; (apply hP <;> (exact zD)); rfl; intro tr htr) | refine zkc ?_ | refine zz ?_ | refine zkd ?_ | refine zke ?_ | refine zkf ?_ | (refine RKg.split (fun h => ?_) (fun h => ?_) <;> (try rw [h]) <;> (replace h := zB h) <;> (try (exfalso; first | exact h | omega))) | refine zbt ?_ | apply V.regK | refine zvd ?_ | refine zve ?_ | (refine zvf (fun h => ?_) (fun h => ?_) <;> (replace h := zB h) <;> (try (exfalso; first | exact h | omega))) | (refine zfc Tryz.results126 ?_; (try dsimp only)))
  refine ⟨rfl, ⟨by (first | omega | (simp only [next_push, next_set, next_empty]; done) | (simp only [next_push, next_set, next_empty]; omega)), by (first | omega | (simp only [next_push, next_set, next_empty]; done) | (simp only [next_push, next_set, next_empty]; omega)), hne, ?_, ?_, fun x hx => ?_, ?_⟩, ?_⟩
  · show AHeap.get _ p.q = some (pgBlk (.os p.m (p.e + 1) 0 (p.l ++ [r]).length))
    rw [List.length_append]
    simp (disch := (first | omega | exact zX | fail)) only [get_set, get_push, next_push, next_set, if_pos', if_neg', if_true, if_false, reduceIte]
    rfl
  · show AHeap.get _ p.m = some ⟨79, 1, p.e + 1, [] ++ rowsB (p.l ++ [r]), none⟩
    simp (disch := (first | omega | exact zX | fail)) only [get_set, get_push, next_push, next_set, if_pos', if_neg', if_true, if_false, reduceIte]
    rfl
  · rcases List.mem_append.1 hx with hx | hx
    · exact hP0.ok x hx
    · rw [List.mem_singleton.1 hx]; exact hr
  · show (p.l ++ [r]).length ≤ 16
    rw [List.length_append]; simp; omega
  · exact ((((Turn.refl (fun k => k = p.q ∨ k = p.m) H).set p.m _ (.inl (.inr rfl))).set p.q _ (.inl (.inl rfl))).push _).push _

/-- The first row of a page. -/
theorem pageAdd0_run {q : Nat} (hb : H.get q = some (pgBlk nilA)) (hq : q < H.next) (hlo : lo ≤ q) (r : Rw) (hr : rwOk r) : CallE (ELo oc) ys lo 126 [.op q 0 0 0, rowA (.sl 3 (cesA r.1)) r.2] H fun x H' => x = .v (.bool true) ∧ (∃ m, PgOk H' ⟨q, m, 0, [], [r]⟩ ∧ H.next ≤ m) ∧ Turn (fun k => k = q) H H' := by
  refine WC.effE rfl ?_
  have hnq : ¬ H.next = q := by omega
  have hP := fun ys G => Put_run (ys := ys) (lo := lo) (H := G) (wr := r.2) (.inl (.inl rfl)) hr.1 hr.2
  have hbG : ∀ b, (H.push b).get q = some (pgBlk nilA) := fun b => by rw [get_push, if_neg hnq]; exact hb
  have hbG2 : ∀ b b', ((H.push b).push b').get q = some (pgBlk nilA) := fun b b' => by rw [get_push, if_neg (by (first | omega | (simp only [next_push, next_set, next_empty]; done) | (simp only [next_push, next_set, next_empty]; omega)))]; exact hbG b
  have hap := fun (b : Blk) => append_new (ELo oc) lo (t := 181) (H := (H.push b).push ⟨79, 1, 0, [rowB r], none⟩) (s := .v (.slice none 0 0)) (x := .os (H.next + 1) 0 0 1) (es := [rowB r]) (.inr rfl) app_rowsB (.inr ⟨H.next + 1, 0, 0, _, rfl, by (first | omega | (simp only [next_push, next_set, next_empty]; done) | (simp only [next_push, next_set, next_empty]; omega)), by rw [get_push, if_pos (by (first | omega | (simp only [next_push, next_set, next_empty]; done) | (simp only [next_push, next_set, next_empty]; omega)))], rfl, rfl, rfl, by simp, rfl⟩) (by simp) (by unfold roomMax; simp)
  simp only [List.length_singleton] at hap
  unfold rowB at hap
  unfold nilA at hb hbG hbG2
  refine zvin Tryz.func126 Tryz.ntmps126 ?_
  repeat' (first | refine zka ?_ | refine zkb ?_ | (apply RKp.op; ((try simp (disch := (first | exact zQ | fail)) only [hb, hbG, hbG2, hap, go_sem]); exact zL); rfl) | (apply RKp.callR; (apply hP <;> (exact zD)); rfl; intro tr htr) | refine zkc ?_ | refine zz ?_ | refine zkd ?_ | refine zke ?_ | refine zkf ?_ | (refine RKg.split (fun h => ?_) (fun h => ?_) <;> (try rw [h]) <;> (replace h := zB h) <;> (try (exfalso; first | exact h | omega))) | refine zbt ?_ | apply V.regK | refine zvd ?_ | refine zve ?_ | (refine zvf (fun h => ?_) (fun h => ?_) <;> (replace h := zB h) <;> (try (exfalso; first | exact h | omega))) | (refine zfc Tryz.results126 ?_; (try dsimp only)))
  refine ⟨rfl, ⟨H.next + 1 + 1, ⟨by (first | omega | (simp only [next_push, next_set, next_empty]; done) | (simp only [next_push, next_set, next_empty]; omega)), by (first | omega | (simp only [next_push, next_set, next_empty]; done) | (simp only [next_push, next_set, next_empty]; omega)), by show q ≠ H.next + 1 + 1; omega, ?_, ?_, fun x hx => ?_, by simp⟩, by omega⟩, ?_⟩
  · show AHeap.get _ q = some (pgBlk (.os (H.next + 1 + 1) 0 0 1))
    simp (disch := (first | omega | exact zX | fail)) only [get_set, get_push, next_push, next_set, if_pos', if_neg', if_true, if_false, reduceIte]
  · show AHeap.get _ (H.next + 1 + 1) = some ⟨79, 1, 0, [[.sl 1 (bytesL (pkB r.1 r.2))]], none⟩
    simp (disch := (first | omega | exact zX | fail)) only [get_set, get_push, next_push, next_set, if_pos', if_neg', if_true, if_false, reduceIte]
  · rw [List.mem_singleton.1 hx]; exact hr
  · exact ((((Turn.refl (fun k => k = q) H).set q _ (.inl rfl)).push _).push _).push _
end
end Go.Am

namespace Go.Am
variable {oc : Orc} [OrcI oc] [OrcF oc]
open Go.Proofs
set_option maxRecDepth 8000
set_option maxHeartbeats 8000000
instance : Inhabited Pg := ⟨⟨0, 0, 0, [], []⟩⟩
def noPg : Pg := ⟨0, 0, 0, [], []⟩
def pgA (p : Pg) : List AV := [.op p.q 0 0 0]
def pgNames (pgs : List Pg) : List Nat := pgs.flatMap fun p => [p.q, p.m]
def pgRows (pgs : List Pg) : List Rw := pgs.flatMap fun p => p.l
theorem pgRows_app (a b : List Pg) : pgRows (a ++ b) = pgRows a ++ pgRows b := List.flatMap_append
theorem pgNames_app (a b : List Pg) : pgNames (a ++ b) = pgNames a ++ pgNames b := List.flatMap_append
theorem pgRows_one (p : Pg) : pgRows [p] = p.l := by simp [pgRows]
theorem pgNames_one (p : Pg) : pgNames [p] = [p.q, p.m] := rfl
theorem pgs_len {l : List Pg} (h : ∀ p ∈ l, p.l ≠ []) : l.length ≤ (pgRows l).length := by
  induction l with
  | nil => exact Nat.le_refl _
  | cons p l ih =>
    have h1 := h p List.mem_cons_self
    have h2 := ih fun q hq => h q (List.mem_cons_of_mem _ hq)
    have h3 : 1 ≤ p.l.length := by cases hq : p.l with | nil => exact absurd hq h1 | cons => simp
    show l.length + 1 ≤ (p.l ++ pgRows l).length
    rw [List.length_append]; omega

/-- All but the last one are full. -/
def FullT (l : List Pg) : Prop := ∀ p ∈ l.dropLast, p.l.length = 16
theorem FullT.tail {p : Pg} {l : List Pg} (h : FullT (p :: l)) : FullT l := by
  cases l with
  | nil => intro x hx; cases hx
  | cons q l => exact fun x hx => h x (by rw [List.dropLast_cons_cons]; exact List.mem_cons_of_mem _ hx)
theorem FullT.tail' {l : List Pg} (h : FullT l) : FullT l.tail := by
  cases l with
  | nil => exact h
  | cons p l => exact h.tail
theorem FullT.at : ∀ (l : List Pg) (j : Nat), FullT l → (∀ p ∈ l, p.l.length ≤ 16) → j < (pgRows l).length → j / 16 < l.length ∧ j % 16 < (l.getD (j / 16) noPg).l.length ∧ (pgRows l).getD j noRw = (l.getD (j / 16) noPg).l.getD (j % 16) noRw := by
  intro l
  induction l with
  | nil => intro j _ _ h; exact absurd h (Nat.not_lt_zero _)
  | cons p l ih =>
    intro j hf hl hj
    have hp := hl p List.mem_cons_self
    have e : pgRows (p :: l) = p.l ++ pgRows l := rfl
    rw [e] at hj ⊢
    rw [List.length_append] at hj
    by_cases h : j < p.l.length
    · have h0 : j / 16 = 0 := by omega
      have h1 : j % 16 = j := by omega
      rw [h0, h1, List.getD_cons_zero]
      refine ⟨by simp, h, ?_⟩
      rw [List.getD_eq_getElem?_getD, List.getElem?_append_left h, List.getD_eq_getElem?_getD]
    · have hne : l ≠ [] := by rintro rfl; simp [pgRows] at hj; omega
      obtain ⟨q, r, rfl⟩ : ∃ q r, l = q :: r := by cases l with | nil => exact absurd rfl hne | cons q r => exact ⟨q, r, rfl⟩
      have h16 : p.l.length = 16 := hf p (by rw [List.dropLast_cons_cons]; exact List.mem_cons_self)
      obtain ⟨k1, k2, k3⟩ := ih (j - 16) hf.tail (fun x hx => hl x (List.mem_cons_of_mem _ hx)) (by omega)
      have d1 : j / 16 = (j - 16) / 16 + 1 := by omega
      have d2 : j % 16 = (j - 16) % 16 := by omega
      rw [d1, d2, List.getD_cons_succ]
      refine ⟨by rw [List.length_cons]; omega, k2, ?_⟩
      rw [List.getD_eq_getElem?_getD, List.getElem?_append_right (by omega), h16, ← List.getD_eq_getElem?_getD]
      exact k3

/-- The program's way to a row. -/
theorem store_at {p : Pg} {l : List Pg} (hf : FullT l) (hl : ∀ q ∈ p :: l, q.l.length ≤ 16) (i : Nat) (hi : i < (pgRows (p :: l)).length) (h : ¬ i < p.l.length) : 1 + (i - p.l.length) / 16 < (p :: l).length ∧ (i - p.l.length) % 16 < ((p :: l).getD (1 + (i - p.l.length) / 16) noPg).l.length ∧ (pgRows (p :: l)).getD i noRw = ((p :: l).getD (1 + (i - p.l.length) / 16) noPg).l.getD ((i - p.l.length) % 16) noRw := by
  have e : pgRows (p :: l) = p.l ++ pgRows l := rfl
  rw [e, List.length_append] at hi
  obtain ⟨k1, k2, k3⟩ := FullT.at l (i - p.l.length) hf (fun q hq => hl q (List.mem_cons_of_mem _ hq)) (by omega)
  rw [Nat.add_comm 1, List.getD_cons_succ]
  refine ⟨by rw [List.length_cons]; omega, k2, ?_⟩
  rw [e, List.getD_eq_getElem?_getD, List.getElem?_append_right (by omega), ← List.getD_eq_getElem?_getD]
  exact k3
def FullM (l : List Pg) : Prop := FullT l.tail
theorem FullT.snoc {l : List Pg} (h : FullT l) (h2 : ∀ a p, l = a ++ [p] → p.l.length = 16) (x : Pg) : FullT (l ++ [x]) := by
  unfold FullT
  rw [List.dropLast_concat]
  rcases last_cases l with rfl | ⟨a, p, rfl⟩
  · intro q hq; cases hq
  · intro q hq
    unfold FullT at h
    rw [List.dropLast_concat] at h
    rcases List.mem_append.1 hq with hq | hq
    · exact h q hq
    · rw [List.mem_singleton.1 hq]; exact h2 a p rfl
theorem FullM.snoc {l : List Pg} (h : FullM l) (h2 : ∀ a p, l = a ++ [p] → p.l.length = 16) (x : Pg) : FullM (l ++ [x]) := by
  cases l with
  | nil => intro q hq; cases hq
  | cons b l =>
    show FullT (l ++ [x])
    exact FullT.snoc h (fun a p e => h2 (b :: a) p (by have e' : l = a ++ [p] := e; rw [e']; rfl)) x
theorem FullM.last {a : List Pg} {p : Pg} (h : FullM (a ++ [p])) (x : Pg) : FullM (a ++ [x]) := by
  cases a with
  | nil => intro q hq; cases hq
  | cons b a =>
    have h' : FullT (a ++ [p]) := h
    show FullT (a ++ [x])
    unfold FullT at h' ⊢
    rw [List.dropLast_concat] at h' ⊢
    exact h'
theorem FullM.tail {p : Pg} {l : List Pg} (h : FullM (p :: l)) : FullM l := by
  cases l with
  | nil => intro q hq; cases hq
  | cons q l => exact FullT.tail h

/-- The store's names and pages. -/
structure StN where
  P : AV
  pn : List Nat
  pgs : List Pg
  gone : Int
abbrev stBlk (lim : Int) (P : AV) (n gone : Int) : Blk := ⟨143, 4, 0, [[.v (.int .i64 lim), P, .v (.int .i64 n), .v (.int .i64 gone)]], none⟩
def StN.names (s : StN) (h : Nat) : List Nat := h :: (s.pn ++ pgNames s.pgs)
structure StOk (H : AHeap) (h : Nat) (s : StN) (lim n : Int) : Prop where
  hl : h < H.next
  blk : H.get h = some (stBlk lim s.P n s.gone)
  pp : (s.P = nilA ∧ s.pn = [] ∧ s.pgs = []) ∨ ∃ m e pre, s.P = .os m e pre.length s.pgs.length ∧ s.pn = [m] ∧ m < H.next ∧ H.get m = some ⟨152, 1, e, pre ++ s.pgs.map pgA, none⟩
  pg : ∀ p ∈ s.pgs, PgOk H p
  nd : (s.names h).Nodup
theorem mem_pgNames {l : List Pg} {p : Pg} (h : p ∈ l) : p.q ∈ pgNames l ∧ p.m ∈ pgNames l := ⟨List.mem_flatMap.2 ⟨p, h, by simp⟩, List.mem_flatMap.2 ⟨p, h, by simp⟩⟩
theorem StOk.lt {H : AHeap} {h : Nat} {s : StN} {lim n : Int} (hS : StOk H h s lim n) : ∀ k ∈ s.names h, k < H.next := fun k hk => by
  rcases List.mem_cons.1 hk with rfl | hk
  · exact hS.hl
  · rcases List.mem_append.1 hk with hk | hk
    · rcases hS.pp with ⟨_, h2, _⟩ | ⟨m, e, pre, _, h2, h3, _⟩
      · rw [h2] at hk; cases hk
      · rw [h2, List.mem_singleton] at hk; rw [hk]; exact h3
    · obtain ⟨p, hp, hk⟩ := List.mem_flatMap.1 hk
      simp only [List.mem_cons, List.not_mem_nil, or_false] at hk
      rcases hk with rfl | rfl
      · exact (hS.pg p hp).ql
      · exact (hS.pg p hp).ml
theorem StOk.sl {H : AHeap} {h : Nat} {s : StN} {lim n : Int} (hS : StOk H h s lim n) : SlH H 1 s.P (s.pgs.map pgA) := by
  rcases hS.pp with ⟨h1, _, h3⟩ | ⟨m, e, pre, h1, _, h3, h4⟩
  · rw [h1, h3]; exact .inl (.inr ⟨rfl, .inr rfl⟩)
  · rw [h1]
    exact .inr ⟨m, e, pre.length, _, by rw [List.length_map], h3, h4, rfl, rfl, rfl, by simp, by rw [List.drop_left]; exact List.take_of_length_le (Nat.le_refl _)⟩
theorem StOk.cell {H : AHeap} {h : Nat} {s : StN} {lim n : Int} (hS : StOk H h s lim n) : cellsOf s.P = some [s.P] := cells_SlH hS.sl
theorem StOk.turn {F : Nat → Prop} {H H' : AHeap} {h : Nat} {s : StN} {lim n : Int} (hS : StOk H h s lim n) (t : Turn F H H') (hF : ∀ k ∈ s.names h, ¬ F k) : StOk H' h s lim n := by
  refine ⟨Nat.lt_of_lt_of_le hS.hl t.next, by rw [t.keep h hS.hl (hF h List.mem_cons_self)]; exact hS.blk, ?_, fun p hp => ?_, hS.nd⟩
  · rcases hS.pp with q | ⟨m, e, pre, h1, h2, h3, h4⟩
    · exact .inl q
    · exact .inr ⟨m, e, pre, h1, h2, Nat.lt_of_lt_of_le h3 t.next, by rw [t.keep m h3 (hF m (List.mem_cons_of_mem _ (List.mem_append_left _ (by rw [h2]; simp))))]; exact h4⟩
  · have hm := mem_pgNames hp
    exact (hS.pg p hp).turn t (hF _ (List.mem_cons_of_mem _ (List.mem_append_right _ hm.1))) (hF _ (List.mem_cons_of_mem _ (List.mem_append_right _ hm.2)))
theorem StOk.ext {H H' : AHeap} {h : Nat} {s : StN} {lim n : Int} (hS : StOk H h s lim n) (x : Ext H H') : StOk H' h s lim n := by
  refine ⟨Nat.lt_of_lt_of_le hS.hl x.next, by rw [x.get h hS.hl]; exact hS.blk, ?_, fun p hp => (hS.pg p hp).ext x, hS.nd⟩
  rcases hS.pp with q | ⟨m, e, pre, h1, h2, h3, h4⟩
  · exact .inl q
  · exact .inr ⟨m, e, pre, h1, h2, Nat.lt_of_lt_of_le h3 x.next, by rw [x.get m h3]; exact h4⟩
/-! Facts for walks: the pages' slice. -/
section
variable {H0 : AHeap} {P : AV} {pgs : List Pg}
theorem lenS (lo : Nat) (hP : SlH H0 1 P (pgs.map pgA)) (H : AHeap) (hx : Ext H0 H) : primL lo H (builtinA (ELo oc) .len #[141] 3 [P]) = some (.v (.int .i64 pgs.length), H, rdTr P) := by
  have := len_SlH (ELo oc) lo 141 3 (hP.ext hx) (by kernel_rfl)
  rw [List.length_map] at this; exact this
theorem ixS (lo : Nat) (hP : SlH H0 1 P (pgs.map pgA)) (H : AHeap) (hx : Ext H0 H) (κ : IntKind) (z : Int) (h0 : 0 ≤ z) (h1 : z < pgs.length) : primL lo H (indexAddrA (ELo oc) 141 P (.v (.int κ z))) = some (ixA P (pgs.map pgA) z.toNat, H, rdTr P) :=
  ix_SlH (ELo oc) lo 141 κ z (hP.ext hx) (by kernel_rfl) h0 (by rw [List.length_map]; exact h1)
theorem ldS (lo : Nat) (hP : SlH H0 1 P (pgs.map pgA)) (H : AHeap) (hx : Ext H0 H) (j : Nat) (h : j < pgs.length) : primL lo H (loadA (ELo oc) 152 (ixA P (pgs.map pgA) j)) = some (.op (pgs.getD j noPg).q 0 0 0, H, rdTr P) := by
  rw [load_SlH (ELo oc) lo 152 j (hP.ext hx) (by rw [List.length_map]; exact h), nth_map pgA pgs j noPg h]; rfl
end
end Go.Am

namespace Go.Am
variable {oc : Orc} [OrcI oc] [OrcF oc]
open Go.Proofs
set_option maxRecDepth 8000
set_option maxHeartbeats 8000000
section
variable {ys : List (Nat × LRec)} {lo : Nat} {H : AHeap} {h : Nat} {s : StN} {lim n : Int}
theorem clamped_run (z : Int) : CallR (ELo oc) ys lo 113 [.v (.int .i64 z)] H (.v (.int .i64 (min (max z 0) 1000000))) H ⟨0, 0, 0⟩ := by
  refine WC.pure' rfl rfl ?_ _ _ _
  refine zvin Tryz.func113 Tryz.ntmps113 ?_
  repeat' (first | refine zka ?_ | refine zkb ?_ | (apply RKp.op; ((try simp (disch := (first | exact zQ | fail)) only [go_sem]); exact zL); rfl) | refine zkc ?_ | refine zz ?_ | refine zkd ?_ | refine zke ?_ | refine zkf ?_ | (refine RKg.split (fun h => ?_) (fun h => ?_) <;> (try rw [h]) <;> (replace h := zB h) <;> (try (exfalso; first | exact h | omega))) | refine zbt ?_ | apply V.regK | refine zvd ?_ | refine zve ?_ | (refine zvf (fun h => ?_) (fun h => ?_) <;> (replace h := zB h) <;> (try (exfalso; first | exact h | omega))) | (refine zfc Tryz.results113 ?_; (try dsimp only)))
  rfl
theorem storeNew_run (z : Int) : CallN (ELo oc) ys lo 82 [.v (.int .i64 z)] H (.op H.next 0 0 0) (H.push (stBlk (min (max z 0) 1000000) nilA 0 0)) := by
  refine WC.ownN (x := fun b => .op b 0 0 0) (bs := fun _ => [stBlk (min (max z 0) 1000000) nilA 0 0]) rfl fun lo' H' hh => ?_
  have hlo := lo_two hh
  refine zvin Tryz.func82 Tryz.ntmps82 ?_
  repeat' (first | refine zka ?_ | refine zkb ?_ | (apply RKp.op; ((try simp (disch := (first | exact zQ | fail)) only [go_sem]); exact zL); rfl) | (apply RKp.call; (apply clamped_run <;> (exact zD)); rfl) | refine zkc ?_ | refine zz ?_ | refine zkd ?_ | refine zke ?_ | refine zkf ?_ | (refine RKg.split (fun h => ?_) (fun h => ?_) <;> (try rw [h]) <;> (replace h := zB h) <;> (try (exfalso; first | exact h | omega))) | refine zbt ?_ | apply V.regK | refine zvd ?_ | refine zve ?_ | (refine zvf (fun h => ?_) (fun h => ?_) <;> (replace h := zB h) <;> (try (exfalso; first | exact h | omega))) | (refine zfc Tryz.results82 ?_; (try dsimp only)))
  exact hands_op0 (by omega) (by simp (disch := (first | omega | exact zX | fail)) only [get_set, get_push, next_push, next_set, if_pos', if_neg', if_true, if_false, reduceIte]; rfl) (fun x hx => by simp only [List.mem_cons, List.not_mem_nil, or_false] at hx; rcases hx with rfl | rfl | rfl | rfl <;> rfl)
theorem storeLen_run (hS : StOk H h s lim n) : CallRo (ELo oc) ys lo 88 [.op h 0 0 0] H (.v (.int .i64 n)) := by
  refine WC.pureR rfl fun lo' H' hh => ?_
  obtain ⟨rfl, rfl⟩ := two_op hh List.mem_cons_self
  have hb := hS.blk
  refine zvin Tryz.func88 Tryz.ntmps88 ?_
  repeat' (first | refine zka ?_ | refine zkb ?_ | (apply RKp.op; ((try simp (disch := (first | exact zQ | fail)) only [hb, go_sem]); exact zL); rfl) | refine zkc ?_ | refine zz ?_ | refine zkd ?_ | refine zke ?_ | refine zkf ?_ | (refine RKg.split (fun h => ?_) (fun h => ?_) <;> (try rw [h]) <;> (replace h := zB h) <;> (try (exfalso; first | exact h | omega))) | refine zbt ?_ | apply V.regK | refine zvd ?_ | refine zve ?_ | (refine zvf (fun h => ?_) (fun h => ?_) <;> (replace h := zB h) <;> (try (exfalso; first | exact h | omega))) | (refine zfc Tryz.results88 ?_; (try dsimp only)))
  rfl
/-- The store in good order. -/
structure StG (s : StN) (n : Int) : Prop where
  n : n = ((pgRows s.pgs).length : Int)
  nz : ∀ p ∈ s.pgs, p.l ≠ []
  fl : FullM s.pgs
theorem storeAt_run (hS : StOk H h s lim n) (hg : StG s n) (i : Nat) (hi : i < (pgRows s.pgs).length) (hb40 : (pgRows s.pgs).length < 2 ^ 40) : CallRo (ELo oc) ys lo 129 [.op h 0 0 0, .v (.int .i64 (i : Int))] H (.tup [.agg [.sl 3 (cesA ((pgRows s.pgs).getD i noRw).1), .v (.bool ((pgRows s.pgs).getD i noRw).2)], .v (.bool true)]) := by
  refine WC.pureR rfl fun lo' H' hh => ?_
  obtain ⟨rfl, rfl⟩ := two_op hh List.mem_cons_self
  have hb := hS.blk
  have hh1 := hS.hl
  have hLen := fun ys G (x : Ext H' G) => storeLen_run (ys := ys) (lo := H'.next) (hS.ext x)
  have hn := hg.n
  have hbG : ∀ b, (H'.push b).get h = some (stBlk lim s.P n s.gone) := fun b => by rw [get_push, if_neg (by omega)]; exact hb
  obtain ⟨p, r, hpr⟩ : ∃ p r, s.pgs = p :: r := by
    cases hp : s.pgs with
    | nil => rw [hp] at hi; simp [pgRows] at hi
    | cons p r => exact ⟨p, r, rfl⟩
  have hsl := hS.sl
  have hpg := hS.pg
  have hfl := hg.fl
  have hl16 : ∀ q ∈ s.pgs, q.l.length ≤ 16 := fun q hq => (hpg q hq).ln
  have hp0 := hpg p (by rw [hpr]; exact List.mem_cons_self)
  have hpl := fun ys G (x : Ext H' G) => pageLen_run (ys := ys) (lo := H'.next) (hp0.ext x)
  have hln := hp0.ln
  have hrl : s.pgs.length = r.length + 1 := by rw [hpr]; rfl
  have ld0 : ∀ G, Ext H' G → primL H'.next G (loadA (ELo oc) 152 (ixA s.P (s.pgs.map pgA) 0)) = some (.op p.q 0 0 0, G, rdTr s.P) := fun G x => by
    have := ldS H'.next hsl G x 0 (by omega)
    rw [hpr] at this ⊢; exact this
  by_cases hlt : i < p.l.length
  · have hAt := fun ys G (x : Ext H' G) => pageAt_run (ys := ys) (lo := H'.next) (hp0.ext x) i hlt
    have e1 : (pgRows s.pgs).getD i noRw = p.l.getD i noRw := by
      rw [hpr]
      show (p.l ++ pgRows r).getD i noRw = _
      rw [List.getD_eq_getElem?_getD, List.getElem?_append_left hlt, List.getD_eq_getElem?_getD]
    rw [e1]
    refine zvin Tryz.func129 Tryz.ntmps129 ?_
    repeat' (first | refine zka ?_ | refine zkb ?_ | (apply RKp.op; ((try simp (disch := (first | exact zQ | fail)) only [hb, hbG, lenS H'.next hsl, ixS H'.next hsl, ld0, Int.toNat_zero, go_sem]); exact zL); rfl) | (apply RKp.callR; ((first | apply hLen | apply hpl | apply hAt) <;> (exact zD)); rfl; intro tr htr) | refine zkc ?_ | refine zz ?_ | refine zkd ?_ | refine zke ?_ | refine zkf ?_ | (refine RKg.split (fun h => ?_) (fun h => ?_) <;> (try rw [h]) <;> (replace h := zB h) <;> (try (exfalso; first | exact h | omega))) | refine zbt ?_ | apply V.regK | refine zvd ?_ | refine zve ?_ | (refine zvf (fun h => ?_) (fun h => ?_) <;> (replace h := zB h) <;> (try (exfalso; first | exact h | omega))) | (refine FnQ.retB (resct Tryz.results129) (by simp (disch := (first | exact zQ | fail)) only [cellR_op, hb, hbG, lenS H'.next hsl, ixS H'.next hsl, ld0, Int.toNat_zero, go_sem]; rfl) ?_; (try dsimp only)))
    rfl
  · have key := store_at (p := p) (l := r) (by rw [hpr] at hfl; exact hfl) (by rw [hpr] at hl16; exact hl16) i (by rw [hpr] at hi; exact hi) hlt
    rw [← hpr] at key
    obtain ⟨k1, k2, k3⟩ := key
    have hq := hpg _ (getMemK noPg k1)
    have ldi := fun G (x : Ext H' G) => ldS H'.next hsl G x _ k1
    rw [k3]
    generalize s.pgs.getD (1 + (i - p.l.length) / 16) noPg = q at *
    have hAt := fun ys G (x : Ext H' G) => pageAt_run (ys := ys) (lo := H'.next) (hq.ext x) ((i - p.l.length) % 16) k2
    have hd1 : ((i : Int) - (p.l.length : Int)).tdiv 16 = (((i - p.l.length) / 16 : Nat) : Int) := by
      rw [Int.tdiv_eq_ediv_of_nonneg (by omega)]; omega
    have hd2 : ((i : Int) - (p.l.length : Int)).tmod 16 = (((i - p.l.length) % 16 : Nat) : Int) := by
      rw [Int.tmod_eq_emod_of_nonneg (by omega)]; omega
    have hd3 : (1 + (((i - p.l.length) / 16 : Nat) : Int)).toNat = 1 + (i - p.l.length) / 16 := by omega
    refine zvin Tryz.func129 Tryz.ntmps129 ?_
    repeat' (first | refine zka ?_ | refine zkb ?_ | (apply RKp.op; ((try simp (disch := (first | exact zQ | fail)) only [hb, hbG, lenS H'.next hsl, ixS H'.next hsl, ld0, ldi, hd1, hd2, hd3, Int.toNat_zero, go_sem]); exact zL); rfl) | (apply RKp.callR; ((first | apply hLen | apply hpl | apply hAt) <;> (exact zD)); rfl; intro tr htr) | refine zkc ?_ | refine zz ?_ | refine zkd ?_ | refine zke ?_ | refine zkf ?_ | (refine RKg.split (fun h => ?_) (fun h => ?_) <;> (try rw [h]) <;> (replace h := zB h) <;> (try (exfalso; first | exact h | omega))) | refine zbt ?_ | apply V.regK | refine zvd ?_ | refine zve ?_ | (refine zvf (fun h => ?_) (fun h => ?_) <;> (replace h := zB h) <;> (try (exfalso; first | exact h | omega))) | (refine FnQ.retB (resct Tryz.results129) (by simp (disch := (first | exact zQ | fail)) only [cellR_op, hb, hbG, lenS H'.next hsl, ixS H'.next hsl, ld0, ldi, hd1, hd2, hd3, Int.toNat_zero, go_sem]; rfl) ?_; (try dsimp only)))
    rfl
end
end Go.Am

namespace Go.Am
variable {oc : Orc} [OrcI oc] [OrcF oc]
open Go.Proofs
set_option maxRecDepth 8000
set_option maxHeartbeats 8000000
section
variable {ys : List (Nat × LRec)} {lo : Nat} {H : AHeap} {h : Nat} {s : StN} {lim n : Int}

/-- The first page, cut. -/
theorem StOk.cut1 (hS : StOk H h s lim n) {p : Pg} {r : List Pg} (hp : s.pgs = p :: r) (k : Nat) (hk : k ≤ p.l.length) (n' g' : Int) : StOk ((H.set p.q (pgBlk (.os p.m p.e (p.pre.length + k) (p.l.length - k)))).set h (stBlk lim s.P n' g')) h { s with pgs := p.cut k :: r, gone := g' } lim n' := by
  have hnd := hS.nd
  unfold StN.names at hnd
  rw [hp] at hnd
  have hpq : p.q ∈ pgNames (p :: r) := (mem_pgNames List.mem_cons_self).1
  have hpm : p.m ∈ pgNames (p :: r) := (mem_pgNames List.mem_cons_self).2
  rw [List.nodup_cons] at hnd
  obtain ⟨n1, n2⟩ := hnd
  have hhq : h ≠ p.q := fun e => n1 (List.mem_append_right _ (e ▸ hpq))
  have hhm : h ≠ p.m := fun e => n1 (List.mem_append_right _ (e ▸ hpm))
  have hp0 := hS.pg p (by rw [hp]; exact List.mem_cons_self)
  have n3 := List.nodup_append.1 n2
  have n4 : pgNames (p :: r) = p.q :: p.m :: pgNames r := rfl
  rw [n4] at n3
  obtain ⟨n5, n6, n7⟩ := n3
  rw [List.nodup_cons, List.nodup_cons] at n6
  have hc := hp0.cut k hk
  refine ⟨hS.hl, by rw [get_set, if_pos rfl], ?_, ?_, ?_⟩
  · rcases hS.pp with ⟨_, _, z⟩ | ⟨m, e, pre, q1, q2, q3, q4⟩
    · rw [hp] at z; cases z
    · refine .inr ⟨m, e, pre, by rw [q1, hp]; rfl, q2, q3, ?_⟩
      have hm : m ∈ s.pn := by rw [q2]; simp
      have g1 : ¬ h = m := fun z => n1 (List.mem_append_left _ (by rw [z]; exact hm))
      have g2 : ¬ p.q = m := fun z => n7 m hm p.q (by simp) z.symm
      rw [get_set, if_neg g1, get_set, if_neg g2, q4, hp]; rfl
  · intro x hx
    rcases List.mem_cons.1 hx with rfl | hx
    · exact hc.turn (F := fun k => k = h) ((Turn.refl _ _).set h _ (.inl rfl)) (fun z => hhq z.symm) (fun z => hhm z.symm)
    · have hxs := hS.pg x (by rw [hp]; exact List.mem_cons_of_mem _ hx)
      have hxn := mem_pgNames hx
      have g1 : x.q ∈ pgNames (p :: r) := by rw [n4]; simp [hxn.1]
      have g2 : x.m ∈ pgNames (p :: r) := by rw [n4]; simp [hxn.2]
      refine hxs.turn (F := fun k => k = h ∨ k = p.q) (((Turn.refl _ _).set p.q _ (.inl (.inr rfl))).set h _ (.inl (.inl rfl))) ?_ ?_
      · rintro (z | z)
        · exact n1 (List.mem_append_right _ (z ▸ g1))
        · exact n6.1 (by rw [← z]; simp [hxn.1])
      · rintro (z | z)
        · exact n1 (List.mem_append_right _ (z ▸ g2))
        · exact n6.1 (by rw [← z]; simp [hxn.2])
  · have := hS.nd
    unfold StN.names at this ⊢
    rw [hp] at this
    exact this

/-- The first page gone. -/
theorem StOk.drop1 (hS : StOk H h s lim n) {p : Pg} {r : List Pg} (hp : s.pgs = p :: r) {m e : Nat} {pre : List (List AV)} (hP : s.P = .os m e pre.length (r.length + 1)) (hpn : s.pn = [m]) (hm : H.get m = some ⟨152, 1, e, pre ++ (p :: r).map pgA, none⟩) : StOk (H.set h (stBlk lim (.os m e (pre.length + 1) r.length) n s.gone)) h { s with P := .os m e (pre.length + 1) r.length, pgs := r } lim n := by
  have hnd := hS.nd
  unfold StN.names at hnd
  rw [hp, hpn] at hnd
  have n4 : pgNames (p :: r) = p.q :: p.m :: pgNames r := rfl
  rw [n4] at hnd
  have hml : m < H.next := hS.lt m (by unfold StN.names; rw [hpn]; simp)
  have hhm : h ≠ m := fun e => by rw [List.nodup_cons] at hnd; exact hnd.1 (by simp [e])
  refine ⟨hS.hl, by rw [get_set, if_pos rfl], .inr ⟨m, e, pre ++ [pgA p], by simp, hpn, hml, by rw [get_set, if_neg hhm, hm]; simp⟩, ?_, ?_⟩
  · intro x hx
    have hxs := hS.pg x (by rw [hp]; exact List.mem_cons_of_mem _ hx)
    have hxn := mem_pgNames hx
    rw [List.nodup_cons] at hnd
    refine hxs.turn (F := fun k => k = h) ((Turn.refl _ _).set h _ (.inl rfl)) ?_ ?_
    · rintro z; exact hnd.1 (by rw [← z]; simp [hxn.1])
    · rintro z; exact hnd.1 (by rw [← z]; simp [hxn.2])
  · unfold StN.names
    rw [hpn]
    refine hnd.sublist ?_
    exact List.Sublist.cons_cons _ (List.Sublist.cons_cons _ ((List.Sublist.cons _ (List.Sublist.cons _ (List.Sublist.refl _)))))
theorem cuts_run (hS : StOk H h s lim n) (hg : StG s n) (hlim : 0 ≤ lim) (hlo : ∀ k ∈ s.names h, lo ≤ k) (hb40 : n < 2 ^ 40) : CallE (ELo oc) ys lo 127 [.op h 0 0 0] H fun x H' => ∃ s', StOk H' h s' lim (min n lim) ∧ StG s' (min n lim) ∧ pgRows s'.pgs = (pgRows s.pgs).drop (n - lim).toNat ∧ (∀ k ∈ s'.names h, k ∈ s.names h) ∧ Turn (fun k => k ∈ s.names h) H H' := by
  refine WC.effE rfl ?_
  have hn0 : 0 ≤ n := by rw [hg.n]; omega
  refine zvin Tryz.func127 Tryz.ntmps127 ?_
  repeat' (first | refine zka ?_ | refine zkb ?_ | (apply RKp.op; ((try simp (disch := (first | exact zQ | fail)) only [go_sem]); exact zL); rfl) | refine zkc ?_ | refine zz ?_ | refine zkd ?_ | refine zke ?_ | refine zkf ?_ | (refine RKg.split (fun h => ?_) (fun h => ?_) <;> (try rw [h]) <;> (replace h := zB h) <;> (try (exfalso; first | exact h | omega))) | refine zbt ?_ | apply V.regK | refine zva ?_ | refine zvb ?_ | refine zgc ?_ | refine zvd ?_ | refine zve ?_ | (refine zvf (fun h => ?_) (fun h => ?_) <;> (replace h := zB h) <;> (try (exfalso; first | exact h | omega))) | (refine zfa Tryz.results127 ?_; (try dsimp only)) | (refine zfb Tryz.results127 ?_; (try dsimp only)))
  apply V.lpS [2, 3, 4, 5, 6, 7, 8, 9, 10, 11, 12, 13, 14, 15, 16, 17, 18, 19, 20, 21, 22, 23, 24, 25, 26, 27, 28, 29, 30, 31, 32, 33, 34, 35, 36, 37, 38, 39, 40, 41, 42, 43, 44, 45, 46, 47, 48, 49, 50, 51, 52, 53, 54, 55, 56, 57, 58, 59, 60, 61, 62, 63, 64, 65, 66, 67, 68] (fun k xs H2 => ∃ (s2 : StN) (n2 : Int), k = n2.toNat ∧ StOk H2 h s2 lim n2 ∧ StG s2 n2 ∧ n2 ≤ n ∧ min n lim ≤ n2 ∧ pgRows s2.pgs = (pgRows s.pgs).drop (n - n2).toNat ∧ (∀ k ∈ s2.names h, k ∈ s.names h) ∧ Turn (fun k => k ∈ s.names h) H H2) n.toNat
  focus (intro xs; simp only [putMany, set2, Nat.reduceAdd, Nat.reduceDiv, Nat.reduceMod, nth_zero, nth_succ, List.set_cons_zero, List.set_cons_succ]; rfl)
  focus (first | rfl | simp only [readMany, nth_zero, nth_succ, Nat.reduceDiv, Nat.reduceMod])
  · exact ⟨s, n, rfl, hS, hg, Int.le_refl _, by omega, by simp, fun k hk => hk, Turn.refl _ _⟩
  · rintro k xs H2 ⟨s2, n2, rfl, hS2, hg2, hn2, hmn, hpr, hnm, htu⟩
    have hb2 := hS2.blk
    have hh2 := hS2.hl
    have hcP := hS2.cell
    have hlh : lo ≤ h := hlo h List.mem_cons_self
    unfold stBlk at hb2
    by_cases hcut : lim < n2
    · have hng := hg2.n
      obtain ⟨p, r, hpp⟩ : ∃ p r, s2.pgs = p :: r := by
        cases hp : s2.pgs with
        | nil => rw [hp] at hng; simp [pgRows] at hng; omega
        | cons p r => exact ⟨p, r, rfl⟩
      have hsl := hS2.sl
      have hp0 := hS2.pg p (by rw [hpp]; exact List.mem_cons_self)
      have hpne := hg2.nz p (by rw [hpp]; exact List.mem_cons_self)
      have hpl1 : 1 ≤ p.l.length := by cases hq : p.l with | nil => exact absurd hq hpne | cons => simp
      have hp16 := hp0.ln
      have hlq : lo ≤ p.q := hlo _ (hnm _ (List.mem_cons_of_mem _ (List.mem_append_right _ (by rw [hpp]; exact (mem_pgNames List.mem_cons_self).1))))
      obtain ⟨kk, hkk, hk1, hk2, hk3⟩ : ∃ kk : Nat, min (n2 - lim) (p.l.length : Int) = (kk : Int) ∧ 1 ≤ kk ∧ kk ≤ p.l.length ∧ (kk : Int) ≤ n2 - lim := ⟨(min (n2 - lim) (p.l.length : Int)).toNat, by omega, by omega, by omega, by omega⟩
      have hLen := fun ys => pageLen_run (ys := ys) (lo := lo) hp0
      have hCut := fun ys => pageCut_run (ys := ys) hp0 hlq kk hk2
      have hS4 := hS2.cut1 hpp kk hk2 (n2 - kk) (IntKind.i64.wrap (s2.gone + kk))
      have hhq : ¬ p.q = h := fun e => by
        have := hS2.nd
        unfold StN.names at this
        rw [List.nodup_cons] at this
        exact this.1 (List.mem_append_right _ (by rw [hpp, ← e]; exact (mem_pgNames List.mem_cons_self).1))
      have hhq' : ¬ h = p.q := fun e => hhq e.symm
      have hsl4 := hS4.sl
      have hp4 := hS4.pg (p.cut kk) List.mem_cons_self
      have hLen4 := fun ys => pageLen_run (ys := ys) (lo := lo) hp4
      have hrl : s2.pgs.length = r.length + 1 := by rw [hpp]; rfl
      have ld0 : ∀ G, Ext H2 G → primL lo G (loadA (ELo oc) 152 (ixA s2.P (s2.pgs.map pgA) 0)) = some (.op p.q 0 0 0, G, rdTr s2.P) := fun G x => by
        have := ldS lo hsl G x 0 (by omega)
        rw [hpp] at this ⊢; exact this
      have hmp : (p.cut kk :: r).map pgA = s2.pgs.map pgA := by rw [hpp]; rfl
      rw [hmp] at hsl4
      have ld4 : ∀ G, Ext _ G → primL lo G (loadA (ELo oc) 152 (ixA s2.P (s2.pgs.map pgA) 0)) = some (.op p.q 0 0 0, G, rdTr s2.P) := fun G x => by
        have := ldS lo hsl4 G x 0 (by omega)
        rw [hpp] at this ⊢; exact this
      have hcl : (p.cut kk).l.length = p.l.length - kk := List.length_drop
      have hcq : (p.cut kk).q = p.q := rfl
      rw [hcl] at hLen4
      rcases hS4.pp with ⟨_, _, z⟩ | ⟨m, e, pre, hP4, hpn4, hm4, hgm4⟩
      · cases z
      have hP4 : s2.P = .os m e pre.length (r.length + 1) := hP4
      have hS5 := hS4.drop1 rfl hP4 hpn4 hgm4
      rw [set_set] at hS5
      have slS : ∀ G, Ext _ G → primL lo G (sliceA (ELo oc) 141 s2.P (some (.v (.int .i64 1))) none none) = some (.os m e (pre.length + 1) r.length, G, rdTr s2.P) := fun G x => by
        rw [slice_SlH (ELo oc) lo (t := 141) (size := 1) (by kernel_rfl) (hsl4.ext x) (some (.v (.int .i64 1))) none (l := 1) (r := s2.pgs.length) rfl (by rw [bound_none, List.length_map]) (by omega) (by rw [List.length_map]; exact Nat.le_refl _), hP4, hrl]
        rfl
      have hrows : pgRows (p.cut kk :: r) = (pgRows s2.pgs).drop kk := by
        rw [hpp]
        show p.l.drop kk ++ pgRows r = (p.l ++ pgRows r).drop kk
        rw [List.drop_append_of_le_length hk2]
      have hrows2 : (pgRows s2.pgs).drop kk = (pgRows s.pgs).drop (n - (n2 - kk)).toNat := by
        rw [hpr, List.drop_drop]; congr 1; omega
      have hnl : n2 - kk = ((pgRows (p.cut kk :: r)).length : Int) := by rw [hrows, List.length_drop]; omega
      have hfr : FullT r := by have := hg2.fl; rw [hpp] at this; exact this
      have hnzr : ∀ x ∈ r, x.l ≠ [] := fun x hx => hg2.nz x (by rw [hpp]; exact List.mem_cons_of_mem _ hx)
      have hlq2 : p.q ∈ s.names h := hnm _ (List.mem_cons_of_mem _ (List.mem_append_right _ (by rw [hpp]; exact (mem_pgNames List.mem_cons_self).1)))
      have hlh2 : h ∈ s.names h := List.mem_cons_self
      have hn4 : ∀ k ∈ h :: (s2.pn ++ pgNames (p.cut kk :: r)), k ∈ s.names h := fun k hk => hnm k (by unfold StN.names; rw [hpp]; exact hk)
      have hn5 : ∀ k ∈ h :: (s2.pn ++ pgNames r), k ∈ s.names h := fun k hk => hn4 k (by
        rcases List.mem_cons.1 hk with z | z
        · rw [z]; exact List.mem_cons_self
        · refine List.mem_cons_of_mem _ ?_
          rcases List.mem_append.1 z with z | z
          · exact List.mem_append_left _ z
          · exact List.mem_append_right _ (by show k ∈ (p.cut kk).q :: (p.cut kk).m :: pgNames r; simp [z]))
      repeat' (first | refine zka ?_ | refine zkb ?_ | (apply RKp.op; ((try simp (disch := (first | exact zQ | fail)) only [slS, hb2, hcP, hlh, lenS lo hsl, ixS lo hsl, ld0, ixS lo hsl4, ld4, hkk, hhq, hhq', hcq, Int.toNat_zero, go_sem]); exact zL); rfl) | (apply RKp.callR; ((first | apply hLen | apply hLen4) <;> (exact zD)); rfl; intro tr htr) | (apply RKp.callO; (apply hCut <;> (exact zD)); rfl; intro tr) | refine zkc ?_ | refine zz ?_ | refine zkd ?_ | refine zke ?_ | refine zkf ?_ | (refine RKg.split (fun h => ?_) (fun h => ?_) <;> (try rw [h]) <;> (replace h := zB h) <;> (try (exfalso; first | exact h | omega))) | refine zbt ?_ | apply V.regK | refine zva ?_ | refine zvb ?_ | refine zgc ?_ | refine zvd ?_ | refine zve ?_ | (refine zvf (fun h => ?_) (fun h => ?_) <;> (replace h := zB h) <;> (try (exfalso; first | exact h | omega))) | (refine zfa Tryz.results127 ?_; (try dsimp only)) | (refine zfb Tryz.results127 ?_; (try dsimp only)))
      · have hk0 : kk = p.l.length := by omega
        have hz : pgRows r = pgRows (p.cut kk :: r) := by
          show pgRows r = p.l.drop kk ++ pgRows r
          rw [List.drop_eq_nil_of_le (by omega), List.nil_append]
        refine LoopS.again (n2 - kk).toNat (by rfl) (by omega) ⟨_, n2 - kk, rfl, hS5, ⟨by rw [← hz] at hnl; exact hnl, hnzr, FullT.tail' hfr⟩, by omega, by omega, by rw [← hrows2, ← hrows]; exact hz, hn5, (htu.set p.q _ (.inl hlq2)).set _ _ (.inl hlh2)⟩
      · refine LoopS.again (n2 - kk).toNat (by rfl) (by omega) ⟨_, n2 - kk, rfl, hS4, ⟨hnl, fun x hx => ?_, hfr⟩, by omega, by omega, by rw [← hrows2]; exact hrows, hn4, (htu.set p.q _ (.inl hlq2)).set _ _ (.inl hlh2)⟩
        rcases List.mem_cons.1 hx with rfl | hx
        · intro z
          have := congrArg List.length z
          rw [hcl] at this
          simp only [List.length_nil] at this; omega
        · exact hnzr x hx
    · have e : n2 = min n lim := by omega
      subst e
      repeat' (first | refine zka ?_ | refine zkb ?_ | (apply RKp.op; ((try simp (disch := (first | exact zQ | fail)) only [hb2, go_sem]); exact zL); rfl) | refine zkc ?_ | refine zz ?_ | refine zkd ?_ | refine zke ?_ | refine zkf ?_ | (refine RKg.split (fun h => ?_) (fun h => ?_) <;> (try rw [h]) <;> (replace h := zB h) <;> (try (exfalso; first | exact h | omega))) | refine zbt ?_ | apply V.regK | refine zva ?_ | refine zvb ?_ | refine zgc ?_ | refine zvd ?_ | refine zve ?_ | (refine zvf (fun h => ?_) (fun h => ?_) <;> (replace h := zB h) <;> (try (exfalso; first | exact h | omega))) | (refine zfa Tryz.results127 ?_; (try dsimp only)) | (refine zfb Tryz.results127 ?_; (try dsimp only)))
      refine ⟨s2, hS2, hg2, ?_, hnm, htu⟩
      rw [hpr]
      congr 1; omega

/-- A history cut to its limit. -/
def cutR (lim : Int) (l : List Rw) : List Rw := l.drop ((l.length : Int) - lim).toNat
theorem cuts_E (hS : StOk H h s lim n) (hg : StG s n) (hlim : 0 ≤ lim) (hlo : ∀ k ∈ s.names h, lo ≤ k) (hb40 : n < 2 ^ 40) : CallE (ELo oc) ys lo 127 [.op h 0 0 0] H fun x H' => ∃ s' n', StOk H' h s' lim n' ∧ StG s' n' ∧ pgRows s'.pgs = cutR lim (pgRows s.pgs) ∧ (∀ k ∈ s'.names h, k ∈ s.names h) ∧ Turn (fun k => k ∈ s.names h) H H' := by
  obtain ⟨x, H', tr, h1, s', h2, h3, h4, h5, h6⟩ := cuts_run (ys := ys) hS hg hlim hlo hb40
  exact ⟨x, H', tr, h1, s', _, h2, h3, by rw [h4, cutR, ← hg.n], h5, h6⟩

/-- A store at h: its rows; G: its names. -/
structure ST (H : AHeap) (G : Nat → Prop) (h : Nat) (lim : Int) (rows : List Rw) : Prop where
  ex : ∃ s n, StOk H h s lim n ∧ StG s n ∧ pgRows s.pgs = rows ∧ ∀ k ∈ s.names h, G k
  lt : ∀ k, G k → k < H.next
  l0 : 0 ≤ lim
theorem ST.own {G : Nat → Prop} {rows : List Rw} (hT : ST H G h lim rows) : G h := by
  obtain ⟨s, n, _, _, _, hk⟩ := hT.ex
  exact hk h List.mem_cons_self
theorem ST.turn {G F : Nat → Prop} {rows : List Rw} {H' : AHeap} (hT : ST H G h lim rows) (t : Turn F H H') (hd : ∀ k, G k → ¬ F k) : ST H' G h lim rows := by
  obtain ⟨s, n, h1, h2, h3, h4⟩ := hT.ex
  exact ⟨⟨s, n, h1.turn t fun k hk => hd k (h4 k hk), h2, h3, h4⟩, fun k hk => Nat.lt_of_lt_of_le (hT.lt k hk) t.next, hT.l0⟩
theorem ST.ext {G : Nat → Prop} {rows : List Rw} {H' : AHeap} (hT : ST H G h lim rows) (t : Ext H H') : ST H' G h lim rows := by
  obtain ⟨s, n, h1, h2, h3, h4⟩ := hT.ex
  exact ⟨⟨s, n, h1.ext t, h2, h3, h4⟩, fun k hk => Nat.lt_of_lt_of_le (hT.lt k hk) t.next, hT.l0⟩
theorem ST.sub {G G' : Nat → Prop} {rows : List Rw} (hT : ST H G h lim rows) (hs : ∀ k, G k → G' k) (hl : ∀ k, G' k → k < H.next) : ST H G' h lim rows := by
  obtain ⟨s, n, h1, h2, h3, h4⟩ := hT.ex
  exact ⟨⟨s, n, h1, h2, h3, fun k hk => hs k (h4 k hk)⟩, hl, hT.l0⟩
theorem ST.ok {G : Nat → Prop} {rows : List Rw} (hT : ST H G h lim rows) : ∀ r ∈ rows, rwOk r := by
  obtain ⟨s, n, h1, h2, rfl, h4⟩ := hT.ex
  intro r hr
  obtain ⟨p, hp, hr⟩ := List.mem_flatMap.1 hr
  exact (h1.pg p hp).ok r hr
theorem ST.new (z : Int) : ST (H.push (stBlk (min (max z 0) 1000000) nilA 0 0)) (fun k => k = H.next) H.next (min (max z 0) 1000000) [] :=
  ⟨⟨⟨nilA, [], [], 0⟩, 0, ⟨by (first | omega | (simp only [next_push, next_set, next_empty]; done) | (simp only [next_push, next_set, next_empty]; omega)), by rw [get_push, if_pos rfl], .inl ⟨rfl, rfl, rfl⟩, fun p hp => (by cases hp), by simp [StN.names, pgNames]⟩, ⟨rfl, fun p hp => (by cases hp), fun p hp => (by cases hp)⟩, rfl, fun k hk => by simpa [StN.names, pgNames] using hk⟩, fun k hk => by rw [hk]; (first | omega | (simp only [next_push, next_set, next_empty]; done) | (simp only [next_push, next_set, next_empty]; omega)), by omega⟩
end
end Go.Am
