/- Parts of the proof: AmX AmV AmY AmD. -/
import Derived.Test.YtmcimfmibpfnhaaGreatAmU
import Derived.Attr
set_option linter.all false
set_option linter.deprecated false

namespace Go.Am
attribute [go_sem] aev_tmp aev_int aev_bool aev_str aev_nilS aev_nilP aev_nilF aev_func nth_zero nth_succ get_push get_set get_empty next_push next_set next_empty set_push set_set primL_val primL_opt primL_prim0 primL_prim1 primL_prim2 effL_none effL_set0 effL_set0' effL_new primL_live plan_move plan_assign plan_pick pickA_v plan_alloc plan_box plan_build plan_buildSlice newB_f newB_2 fillA_cons fillA_nil fillE_cons fillE_nil setCells slSz storeA_op index_os plan_load loadA_fp loadA_op plan_store plan_nilCheck plan_binOp plan_unOp plan_convert conv_int conv_osM numsOf_nil numsOf_cons plan_slice len_os len_str sliceElems builtin_append plan_fieldAddr plan_field fieldA plan_indexAddr plan_index plan_extract plan_builtin plan_call callA_fn bin_lss bin_leq bin_gtr bin_geq bin_eql bin_neq bin_add bin_sub bin_mul bin_quo bin_rem bin_seql bin_sneq bin_pop bin_pope bin_pfp bin_pfpe eqPlan_opM eqPlan_fpM bin_pnilM bin_beqM bin_bneM bin_eqPlan bin_nePlan eqCell_i eqCell_b eqCells_cons eqCells_nil un_not un_neg min_int max_int cells_v cells_os cells_op cells_sl cells_fp cells_agg cells_e0 cells_fn gv_true gv_false pick_and pick_or
attribute [go_sem] Nat.succ_ne_self Int.toNat_natCast Int.natCast_nonneg List.cons_append List.nil_append List.replicate_succ List.replicate_zero List.set_cons_zero List.set_cons_succ Option.isSome_some List.toList_toArray List.append_nil ne_eq not_false_eq_true Option.bind_some Option.map_some Option.map_none List.length_cons List.length_nil List.drop_succ_cons List.drop_zero List.take_succ_cons List.take_zero List.head?_cons List.map_cons List.map_nil List.getElem?_cons_succ List.getElem?_cons_zero Option.isNone_none Bool.true_and Bool.and_true Bool.not_true Bool.not_false cond_true cond_false true_and and_true if_true Nat.lt_add_one Nat.zero_le Nat.zero_add Nat.add_zero Nat.le_refl
end Go.Am

namespace Go.Am
/-- The operations of a region, from one on; acc: the traces so far, the last one first. -/
structure RK (E : Env) (ys : List (Nat × LRec)) (lo : Nat) (ops rest : List Oper) (s : St) (acc : List Tr) (K : St → List Tr → Prop) : Prop where
  ex : ∃ n s1 trs, runOps E (callF E (exec E n) ys lo) lo ops rest s = some (s1, trs) ∧ K s1 (acc.reverse ++ trs)
/-- The same, at an operation that is wanted. -/
structure RKy (E : Env) (ys : List (Nat × LRec)) (lo : Nat) (ops : List Oper) (o : Oper) (rest : List Oper) (s : St) (acc : List Tr) (K : St → List Tr → Prop) : Prop where
  ex : wantedA o ops s.tm = some true → RK E ys lo ops (o :: rest) s acc K
/-- The same, under a guard whose slot holds y. -/
structure RKg (E : Env) (ys : List (Nat × LRec)) (lo : Nat) (ops : List Oper) (o : Oper) (rest : List Oper) (s : St) (acc : List Tr) (K : St → List Tr → Prop) (y : AV) (want : Bool) : Prop where
  ex : wantedA o ops s.tm = (match y with | .v (.bool b) => some (b == want) | .tup [] => some false | _ => none) → RK E ys lo ops (o :: rest) s acc K
section
variable {E : Env} {ys : List (Nat × LRec)} {lo : Nat} {s : St} {ops rest : List Oper} {o : Oper} {acc : List Tr} {K : St → List Tr → Prop} {tm1 : Slots} {x : AV} {H' : AHeap} {tr : Tr}
theorem RK.nil (h : K s acc.reverse) : RK E ys lo ops [] s acc K := ⟨0, s, [], rfl, by rw [List.append_nil]; exact h⟩
theorem RK.step {s0 : St} {m : Nat} (h : stepOp E (callF E (exec E m) ys lo) lo ops o s = some (s0, tr)) (hk : RK E ys lo ops rest s0 (tr :: acc) K) : RK E ys lo ops (o :: rest) s acc K := by
  obtain ⟨n, s1, trs, h1, h2⟩ := hk.ex
  refine ⟨max m n, s1, tr :: trs, ?_, by simpa using h2⟩
  simp only [runOps, stepOp_mono (exec_mono (Nat.le_max_left m n)) h, runOps_mono (exec_mono (Nat.le_max_right m n)) h1]
theorem RKy.op {tm : Slots} {H : AHeap} (hp : primL lo H (plan E o (aev tm)) = some (x, H', tr)) (hs : putS tm o.dst x some = some tm1) (hk : RK E ys lo ops rest ⟨tm1, H'⟩ (tr :: acc) K) : RKy E ys lo ops o rest ⟨tm, H⟩ acc K :=
  ⟨fun hw => RK.step (m := 0) (s0 := ⟨tm1, H'⟩) (by simp only [stepOp, hw, primL_ok hp, putS_to hs]) hk⟩
theorem RKy.call {tm : Slots} {H : AHeap} {f : FuncId} {args : List AV} (hp : plan E o (aev tm) = .call f args) (hc : CallR E ys lo f args H x H' tr) (hs : putS tm o.dst x some = some tm1) (hk : RK E ys lo ops rest ⟨tm1, H'⟩ (tr :: acc) K) : RKy E ys lo ops o rest ⟨tm, H⟩ acc K := by
  obtain ⟨n, hn⟩ := hc
  exact ⟨fun hw => RK.step (m := n) (s0 := ⟨tm1, H'⟩) (by simp only [stepOp, hw, hp, hn, putS_to hs]) hk⟩
/-- Another code for the operation's plan. -/
theorem RKy.yld {k : Nat} {args : List AV} {n : Nat} (hp : plan E o (aev s.tm) = .yield k args) (hc : (callF E (exec E n) ys lo).yield k args s.H = some (x, H')) (hs : putS s.tm o.dst x some = some tm1) (hk : RK E ys lo ops rest ⟨tm1, H'⟩ (⟨0, 0, 2⟩ :: acc) K) : RKy E ys lo ops o rest s acc K :=
  ⟨fun hw => RK.step (m := n) (s0 := ⟨tm1, H'⟩) (by simp only [stepOp, hw, hp, runPlan, hc, putS_to hs]) hk⟩
theorem RK.free (hg : o.guard = none) (h : RKy E ys lo ops o rest s acc K) : RK E ys lo ops (o :: rest) s acc K := h.ex (by simp only [wantedA, hg])
theorem RK.guard {tm : Slots} {H : AHeap} {j t : Nat} {want : Bool} {y : AV} (hg : o.guard = some (j, want)) (hj : (ops[j]?).bind (·.dst) = some t) (ht : tm.get t = y) (h : RKg E ys lo ops o rest ⟨tm, H⟩ acc K y want) : RK E ys lo ops (o :: rest) ⟨tm, H⟩ acc K := by
  refine h.ex ?_
  subst ht
  simp only [wantedA, hg, hj]
  cases tm.get t with
  | v x => cases x <;> rfl
  | tup l => cases l <;> rfl
  | _ => rfl
theorem RKg.tt (h : RKy E ys lo ops o rest s acc K) : RKg E ys lo ops o rest s acc K (.v (.bool true)) true := ⟨fun hw => h.ex hw⟩
theorem RKg.ff (h : RKy E ys lo ops o rest s acc K) : RKg E ys lo ops o rest s acc K (.v (.bool false)) false := ⟨fun hw => h.ex hw⟩
theorem RKg.tf {tm : Slots} {H : AHeap} (hs : putS tm o.dst (.tup []) some = some tm1) (hk : RK E ys lo ops rest ⟨tm1, H⟩ (⟨0, 0, 0⟩ :: acc) K) : RKg E ys lo ops o rest ⟨tm, H⟩ acc K (.v (.bool true)) false :=
  ⟨fun hw => RK.step (m := 0) (s0 := ⟨tm1, H⟩) (by simp only [stepOp, hw]; exact putS_to hs _) hk⟩
theorem RKg.ft {tm : Slots} {H : AHeap} (hs : putS tm o.dst (.tup []) some = some tm1) (hk : RK E ys lo ops rest ⟨tm1, H⟩ (⟨0, 0, 0⟩ :: acc) K) : RKg E ys lo ops o rest ⟨tm, H⟩ acc K (.v (.bool false)) true :=
  ⟨fun hw => RK.step (m := 0) (s0 := ⟨tm1, H⟩) (by simp only [stepOp, hw]; exact putS_to hs _) hk⟩
theorem RKg.u {tm : Slots} {H : AHeap} {want : Bool} (hs : putS tm o.dst (.tup []) some = some tm1) (hk : RK E ys lo ops rest ⟨tm1, H⟩ (⟨0, 0, 0⟩ :: acc) K) : RKg E ys lo ops o rest ⟨tm, H⟩ acc K (.tup []) want :=
  ⟨fun hw => RK.step (m := 0) (s0 := ⟨tm1, H⟩) (by simp only [stepOp, hw]; exact putS_to hs _) hk⟩
theorem RKg.split {c want : Bool} (ht : c = true → RK E ys lo ops (o :: rest) s acc K) (hf : c = false → RK E ys lo ops (o :: rest) s acc K) : RKg E ys lo ops o rest s acc K (.v (.bool c)) want :=
  ⟨fun _ => by cases hc : c with | true => exact ht hc | false => exact hf hc⟩
variable {rd : Bool} {Q : AX → St → Prop} {l : List Oper}
theorem V.regK {id : Nat} (h : RK E ys lo l l s [] fun s1 _ => Q .normal s1) : V E rd ys lo (.region id (List.toArray l) false) s Q := by
  obtain ⟨n, s1, trs, h1, h2⟩ := h.ex
  exact ⟨W.region ⟨n, s1, trs, h1, h2⟩⟩
/-- What is to be seen behind a drawn region. N: the first name that was free ahead of it. -/
structure DrawK (l : List Oper) (N : Nat) (Q : AX → St → Prop) (s : St) (T : List Tr) : Prop where
  d : okPairs (aheads l [] 0) T 0 [] = true
  q : Q .normal s
theorem V.regdK {tm : Slots} {H : AHeap} {id : Nat} (hb : (okBack l 0 && okPairs (aheads l [] 0) (slotTrs l l) 0 []) = true) (h : RK E ys lo l l ⟨tm, H⟩ [] (DrawK l H.next Q)) : V E rd ys lo (.region id (List.toArray l) true) ⟨tm, H⟩ Q := by
  obtain ⟨n, s1, trs, h1, h2⟩ := h.ex
  refine ⟨W.region_draw ⟨n, s1, trs, h1, ?_, h2.q⟩⟩
  show (okBack l 0 && okPairs (aheads l [] 0) (slotTrs l l) 0 [] && okPairs (aheads l [] 0) trs 0 []) = true
  rw [hb, show okPairs (aheads l [] 0) trs 0 [] = true from h2.d]; rfl
theorem V.condT {c : Operand} {a b : Code} (hc : aev s.tm c = .v (.bool true)) (h : V E rd ys lo a s Q) : V E rd ys lo (.cond c a b) s Q := V.cond hc (fun _ => h) fun e => by cases e
theorem V.condF {c : Operand} {a b : Code} (hc : aev s.tm c = .v (.bool false)) (h : V E rd ys lo b s Q) : V E rd ys lo (.cond c a b) s Q := V.cond hc (fun e => by cases e) fun _ => h
/-- A value that is picked: its condition known. -/
theorem pick_t (a b : AV) : (bif true then a else b) = a := rfl
theorem pick_f (a b : AV) : (bif false then a else b) = b := rfl
end
end Go.Am
namespace Go.Am
theorem wrap_i64 (x : Int) (h1 : -9223372036854775808 ≤ x) (h2 : x ≤ 9223372036854775807) : IntKind.i64.wrap x = x := IntWalk.i64_in x ⟨h1, h2⟩
theorem wrap_i32 (x : Int) (h1 : -2147483648 ≤ x) (h2 : x ≤ 2147483647) : IntKind.i32.wrap x = x := IntWalk.i32_in x ⟨h1, h2⟩
theorem if_pos' {c : Prop} [Decidable c] {α : Type} {a b : α} (h : c) : (if c then a else b) = a := if_pos h
theorem if_neg' {c : Prop} [Decidable c] {α : Type} {a b : α} (h : ¬ c) : (if c then a else b) = b := if_neg h
/-- A field's address, by the field's place. -/
theorem fieldAddrA_op (E : Env) (lo : Nat) (H : AHeap) (s f n e i j : Nat) : primL lo H (fieldAddrA E s f (.op n e i j)) = (fieldOff E.P s f).bind fun off => (H.get n).bind fun b => if b.ep = e then some (.op n e i (j + off), H, ⟨bitsOf [n], 0, 0⟩) else none := by
  simp only [fieldAddrA]
  cases fieldOff E.P s f with
  | none => rfl
  | some off => rw [primL_live]; rfl
theorem fieldAddrA_fp (E : Env) (lo : Nat) (H : AHeap) (s f : Nat) (cs : List AV) : primL lo H (fieldAddrA E s f (.fp cs)) = (fieldOff E.P s f).bind fun off => some (.fp (cs.drop off), H, ⟨0, 0, 0⟩) := by
  simp only [fieldAddrA]
  cases fieldOff E.P s f <;> rfl
/-! A slice's elements, by numbers. -/
theorem ix_SlH (E : Env) (lo : Nat) {H : AHeap} {sz : Nat} {x : AV} {es : List (List AV)} (t : TypeId) (κ : IntKind) (i : Int) (hx : SlH H sz x es) (h : slSz E.P t = some sz) (h0 : 0 ≤ i) (h1 : i < es.length) : primL lo H (indexAddrA E t x (.v (.int κ i))) = some (ixA x es i.toNat, H, rdTr x) := index_SlH E lo t κ i hx h h0 h1
/-- A field of a slice's element: its address. -/
def fxA (x : AV) (es : List (List AV)) (i k : Nat) : AV := match x with
  | .os n e off _ => .op n e (off + i) k
  | _ => .fp ((nth [] es i).drop k)
theorem fieldAddr_SlH (E : Env) (lo : Nat) {H : AHeap} {sz : Nat} {x : AV} {es : List (List AV)} (hx : SlH H sz x es) (s f i : Nat) {off : Nat} (h : fieldOff E.P s f = some off) : primL lo H (fieldAddrA E s f (ixA x es i)) = some (fxA x es i off, H, rdTr x) := by
  rcases hx with hx | ⟨n, e, o, b, rfl, _, hb, he, hi, hs, ho, ht⟩
  · rcases hx with rfl | ⟨rfl, rfl | rfl⟩ <;> simp only [ixA, fxA, fieldAddrA, h, rdTr] <;> rfl
  · show primL lo H (fieldAddrA E s f (.op n e (o + i) 0)) = _
    simp only [fieldAddrA, h]
    rw [primL_live, hb]
    simp only [Option.bind_some, if_pos he, Nat.zero_add]; rfl
theorem loadF_SlH (E : Env) (lo : Nat) {H : AHeap} {sz : Nat} {x : AV} {es : List (List AV)} (hx : SlH H sz x es) (t : TypeId) (i k : Nat) (h1 : i < es.length) (hk : k ≤ sz) : primL lo H (loadA E t (fxA x es i k)) = (partA E.P t ((nth [] es i).drop k)).map fun y => (y, H, rdTr x) := by
  rcases hx with hx | ⟨n, e, off, b, rfl, _, hb, he, hi, hs, ho, ht⟩
  · have : fxA x es i k = .fp ((nth [] es i).drop k) := by rcases hx with rfl | ⟨rfl, rfl | rfl⟩ <;> rfl
    have hr : rdTr x = ⟨0, 0, 0⟩ := by rcases hx with rfl | ⟨rfl, rfl | rfl⟩ <;> rfl
    rw [this, loadA_fp, hr]
    cases partA E.P t ((nth [] es i).drop k) <;> rfl
  · show primL lo H (loadA E t (.op n e (off + i) k)) = _
    rw [loadA_op, hb]
    simp only [Option.bind_some]
    rw [if_pos ⟨he, by rw [hi]; rfl, by omega, by omega⟩, nth_take_drop [] b.es es off i ht h1]; rfl
end Go.Am
namespace Go.Am
/-- A call that reads alone. -/
def CallRo (E : Env) (ys : List (Nat × LRec)) (lo : Nat) (f : FuncId) (args : List AV) (H : AHeap) (x : AV) : Prop := ∃ tr, RoT tr ∧ CallR E ys lo f args H x H tr
/-- A call, its trace untold. -/
def CallO (E : Env) (ys : List (Nat × LRec)) (lo : Nat) (f : FuncId) (args : List AV) (H : AHeap) (x : AV) (H' : AHeap) : Prop := ∃ tr, CallR E ys lo f args H x H' tr
/-- A call, of whose result and heap P holds. -/
def CallE (E : Env) (ys : List (Nat × LRec)) (lo : Nat) (f : FuncId) (args : List AV) (H : AHeap) (P : AV → AHeap → Prop) : Prop := ∃ x H' tr, CallR E ys lo f args H x H' tr ∧ P x H'
/-- A call that reads alone, of whose result P holds. -/
def CallRoE (E : Env) (ys : List (Nat × LRec)) (lo : Nat) (f : FuncId) (args : List AV) (H : AHeap) (P : AV → Prop) : Prop := ∃ x tr, RoT tr ∧ CallR E ys lo f args H x H tr ∧ P x
section
variable {E : Env} {ys : List (Nat × LRec)} {lo : Nat} {s : St} {ops rest : List Oper} {o : Oper} {acc : List Tr} {K : St → List Tr → Prop} {tm1 : Slots} {x : AV} {H' : AHeap} {tr : Tr} {f : FuncId} {args : List AV}
theorem RKy.callR {tm : Slots} {H : AHeap} (hp : plan E o (aev tm) = .call f args) (hc : CallRo E ys lo f args H x) (hs : putS tm o.dst x some = some tm1) (hk : ∀ tr, RoT tr → RK E ys lo ops rest ⟨tm1, H⟩ (tr :: acc) K) : RKy E ys lo ops o rest ⟨tm, H⟩ acc K := by
  obtain ⟨tr, h1, h2⟩ := hc
  exact RKy.call hp h2 hs (hk tr h1)
theorem RKy.callO {tm : Slots} {H : AHeap} (hp : plan E o (aev tm) = .call f args) (hc : CallO E ys lo f args H x H') (hs : putS tm o.dst x some = some tm1) (hk : ∀ tr, RK E ys lo ops rest ⟨tm1, H'⟩ (tr :: acc) K) : RKy E ys lo ops o rest ⟨tm, H⟩ acc K := by
  obtain ⟨tr, h2⟩ := hc
  exact RKy.call hp h2 hs (hk tr)
theorem RKy.callE {tm : Slots} {H : AHeap} {P : AV → AHeap → Prop} {tmf : AV → Slots} (hp : plan E o (aev tm) = .call f args) (hc : CallE E ys lo f args H P) (hs : ∀ x, putS tm o.dst x some = some (tmf x)) (hk : ∀ x H' tr, P x H' → RK E ys lo ops rest ⟨tmf x, H'⟩ (tr :: acc) K) : RKy E ys lo ops o rest ⟨tm, H⟩ acc K := by
  obtain ⟨x, H', tr, h1, h2⟩ := hc
  exact RKy.call hp h1 (hs x) (hk x H' tr h2)
theorem RKy.callRE {tm : Slots} {H : AHeap} {P : AV → Prop} {tmf : AV → Slots} (hp : plan E o (aev tm) = .call f args) (hc : CallRoE E ys lo f args H P) (hs : ∀ x, putS tm o.dst x some = some (tmf x)) (hk : ∀ x tr, RoT tr → P x → RK E ys lo ops rest ⟨tmf x, H⟩ (tr :: acc) K) : RKy E ys lo ops o rest ⟨tm, H⟩ acc K := by
  obtain ⟨x, tr, h0, h1, h2⟩ := hc
  exact RKy.call hp h1 (hs x) (hk x tr h0 h2)
/-- A pure call whose body runs on any heap: the result x, frozen, is what K says. -/
theorem WC.pureE {H : AHeap} {K : AV → Prop} (hpol : E.pol f = .pure)
    (hc : ∀ lo' H', (lo' = H.next ∧ H' = H) ∨ (lo' = 0 ∧ H' = .empty ∧ args.all nf = true) → WC E [] lo' f args H' fun r H'' => K (frzR H'' lo' r)) : CallRoE E ys lo f args H K := by
  cases hn : args.all nf with
  | true =>
    obtain ⟨x, h1, h2⟩ := WC.pure (K := K) hpol hn (hc 0 .empty (.inr ⟨rfl, rfl, hn⟩))
    exact ⟨x, _, RoT.zero, h2 ys lo H, h1⟩
  | false =>
    obtain ⟨x, h1, h2⟩ := WC.pureH (K := K) hpol hn (hc H.next H (.inl ⟨rfl, rfl⟩))
    exact ⟨x, _, RoT.all, h2, h1⟩
theorem WC.pureR {H : AHeap} (hpol : E.pol f = .pure)
    (hc : ∀ lo' H', (lo' = H.next ∧ H' = H) ∨ (lo' = 0 ∧ H' = .empty ∧ args.all nf = true) → WC E [] lo' f args H' fun r H'' => frzR H'' lo' r = x) : CallRo E ys lo f args H x := by
  obtain ⟨y, tr, h1, h2, rfl⟩ := WC.pureE (K := fun y => y = x) (ys := ys) (lo := lo) hpol hc
  exact ⟨tr, h1, h2⟩
end
end Go.Am
namespace Go.Am
theorem renC_flat (H : AHeap) (lo b : Nat) (T : List Nat) {x : AV} (h : flatB x = true) : renC H lo b T frzDepth x = x := by cases x <;> first | rfl | cases h
theorem renC_flatE (H : AHeap) (lo b : Nat) (T : List Nat) {es : List (List AV)} (h : FlatE es) : (es.map fun cs => cs.map (renC H lo b T frzDepth)) = es := by
  conv => rhs; rw [← List.map_id es]
  refine List.map_congr_left fun c hc => ?_
  conv => rhs; rw [id, ← List.map_id c]
  exact List.map_congr_left fun x hx => renC_flat H lo b T (h c hc x hx)
theorem hands_flat {H : AHeap} {lo : Nat} {r : AV} (h : flatB r = true) : Hands H lo r (fun _ => r) fun _ => [] := by
  refine ⟨[], ?_, rfl, rfl, fun b => ⟨rfl, ?_⟩⟩
  · cases r <;> first | rfl | cases h
  · cases r <;> first | rfl | cases h
theorem blks_one {H : AHeap} {lo n e : Nat} {b : Blk} (hb : H.get n = some b) (hf : FlatE b.es) (m : Nat) : blksA H lo m [n] frzDepth [n] = some [{ b with ep := 0 }] := by
  simp only [blksA, hb, Option.map_some, renC_flatE H lo m [n] hf]
theorem renC_one {H : AHeap} {lo n e off len : Nat} {b : Blk} (hl : lo ≤ n) (hb : H.get n = some b) (he : b.ep = e) (m : Nat) : renC H lo m [n] frzDepth (.os n e off len) = .os m 0 off len := by
  simp only [renC, if_neg (Nat.not_lt.2 hl), idxN, if_true, hb, he, Nat.add_zero]
theorem own_one {H : AHeap} {lo n : Nat} (hl : lo ≤ n) : (Nat.blt n lo || ([] : List Nat).any (Nat.beq n)) = false := by
  have : Nat.blt n lo = false := by
    cases h : Nat.blt n lo with
    | false => rfl
    | true => rw [Nat.blt_eq] at h; omega
  rw [this]; rfl
theorem all_one {lo n : Nat} (hl : lo ≤ n) : [n].all (Nat.ble lo) = true := by simp [Nat.ble_eq, hl]
theorem hands_os {H : AHeap} {lo n e off len : Nat} {b : Blk} (hl : lo ≤ n) (hb : H.get n = some b) (he : b.ep = e) (hf : FlatE b.es) : Hands H lo (.os n e off len) (fun m => .os m 0 off len) fun _ => [{ b with ep := 0 }] := by
  refine ⟨[n], ?_, rfl, all_one hl, fun m => ⟨blks_one (e := e) hb hf m, renC_one hl hb he m⟩⟩
  show (if _ then _ else _) = _
  rw [own_one (H := H) hl]; rfl
section
variable {E : Env} {ys : List (Nat × LRec)} {lo : Nat} {H : AHeap} {f : FuncId} {args : List AV}
/-- A call that hands over what it made. -/
theorem WC.ownE {K : (Nat → AV) → (Nat → List Blk) → Prop} (hpol : E.pol f = .own)
    (hc : ∀ lo' H', (lo' = H.next ∧ H' = H) ∨ (lo' = 0 ∧ H' = .empty ∧ args.all nf = true) → WC E [] lo' f args H' fun r H'' => ∃ x bs, Hands H'' lo' r x bs ∧ K x bs) : CallE E ys lo f args H fun r H' => ∃ x bs, K x bs ∧ r = x H.next ∧ H' = pushAll H (bs H.next) := by
  cases hn : args.all nf with
  | true =>
    obtain ⟨x, bs, h1, h2⟩ := WC.own (K := K) hpol hn (hc 0 .empty (.inr ⟨rfl, rfl, hn⟩))
    exact ⟨_, _, _, h2 ys lo H, x, bs, h1, rfl, rfl⟩
  | false =>
    obtain ⟨x, bs, h1, h2⟩ := WC.ownH (K := K) (ys := ys) (lo := lo) hpol hn (hc H.next H (.inl ⟨rfl, rfl⟩))
    exact ⟨_, _, _, h2, x, bs, h1, rfl, rfl⟩
theorem WC.ownO {x : Nat → AV} {bs : Nat → List Blk} (hpol : E.pol f = .own)
    (hc : ∀ lo' H', (lo' = H.next ∧ H' = H) ∨ (lo' = 0 ∧ H' = .empty ∧ args.all nf = true) → WC E [] lo' f args H' fun r H'' => Hands H'' lo' r x bs) : CallO E ys lo f args H (x H.next) (pushAll H (bs H.next)) := by
  obtain ⟨y, H', tr, h, x', bs', ⟨rfl, rfl⟩, rfl, rfl⟩ := WC.ownE (K := fun x' bs' => x' = x ∧ bs' = bs) (ys := ys) (lo := lo) hpol fun lo' H' h => by
    obtain ⟨n, r, H'', h1, h2⟩ := hc lo' H' h
    exact ⟨n, r, H'', h1, x, bs, h2, rfl, rfl⟩
  exact ⟨tr, h⟩
end
/-- The two heaps on which a call's body may run: an argument's elements are there on both. -/
theorem SlH.two {H H' : AHeap} {lo' sz : Nat} {x : AV} {es : List (List AV)} {args : List AV} (h : SlH H sz x es) (hm : nf x = true ∨ ∃ cs, AV.agg cs ∈ args ∧ x ∈ cs ∨ x ∈ args) (hh : (lo' = H.next ∧ H' = H) ∨ (lo' = 0 ∧ H' = .empty ∧ args.all nf = true)) : SlH H' sz x es := by
  rcases hh with ⟨_, rfl⟩ | ⟨_, rfl, hn⟩
  · exact h
  · refine nf_SlH_empty h ?_
    rcases hm with hm | ⟨cs, ⟨h1, h2⟩ | h1⟩
    · exact hm
    · have := List.all_eq_true.1 (List.all_eq_true.1 hn _ h1) x h2
      rcases h with (rfl | ⟨_, rfl | rfl⟩) | ⟨n, e, off, b, rfl, _⟩ <;> first | rfl | cases this
    · exact List.all_eq_true.1 hn x h1
theorem lo_two {H H' : AHeap} {lo' : Nat} {args : List AV} (hh : (lo' = H.next ∧ H' = H) ∨ (lo' = 0 ∧ H' = .empty ∧ args.all nf = true)) : lo' = H'.next := by
  rcases hh with ⟨rfl, rfl⟩ | ⟨rfl, rfl, _⟩ <;> rfl
/-- A slice against nil. -/
theorem nilS_no (E : Env) (lo : Nat) {H : AHeap} {sz : Nat} {x : AV} {es : List (List AV)} (hx : SlH H sz x es) (h0 : x ≠ .v (.slice none 0 0)) (t : TypeId) (xo yo : Operand) (h : isSlT E.P t = true) : primL lo H (binOpA E .eql t xo yo x (.v (.slice none 0 0))) = some (.v (.bool false), H, rdTr x) := by
  obtain ⟨u, hu⟩ := isSlT_ok h
  rcases hx with (rfl | ⟨rfl, rfl | rfl⟩) | ⟨n, e, off, b, rfl, _, hb, he, hi, hs, ho, ht⟩
  · have e : binOpA E .eql t xo yo (.sl sz es) (.v (.slice none 0 0)) = eqPlan E t false (.sl sz es) (.v (.slice none 0 0)) := rfl
    rw [e]; simp only [eqPlan, hu]; rfl
  · have e : binOpA E .eql t xo yo .e0 (.v (.slice none 0 0)) = eqPlan E t false .e0 (.v (.slice none 0 0)) := rfl
    rw [e]; simp only [eqPlan, hu]; rfl
  · exact absurd rfl h0
  · have e : binOpA E .eql t xo yo (.os n e off es.length) (.v (.slice none 0 0)) = eqPlan E t false (.os n e off es.length) (.v (.slice none 0 0)) := rfl
    rw [e]; simp only [eqPlan, hu]
    rw [primL_live, hb]
    simp only [Option.bind_some, if_pos he]; rfl
theorem nilS_yes (E : Env) (lo : Nat) (H : AHeap) (t : TypeId) (xo yo : Operand) (h : isSlT E.P t = true) : primL lo H (binOpA E .eql t xo yo (.v (.slice none 0 0)) (.v (.slice none 0 0))) = some (.v (.bool true), H, ⟨0, 0, 0⟩) := by
  obtain ⟨u, hu⟩ := isSlT_ok h
  rw [bin_snil E t xo yo hu]; rfl
theorem nilS_ne' {H : AHeap} {sz : Nat} {x : AV} {es : List (List AV)} (hx : SlH H sz x es) (h0 : es ≠ []) : x ≠ .v (.slice none 0 0) := by
  rintro rfl
  rcases hx with (h | ⟨h, _⟩) | ⟨n, e, off, b, h, _⟩
  · cases h
  · exact h0 h
  · cases h
end Go.Am

/-! Traces by kinds: what reads old names alone; what reads anything; what makes a new block; anything. -/
namespace Go.Am
inductive Kd where
  | z
  | ro
  | ra
  | nw (k : Nat)
  | any
def KdOf (N : Nat) (t : Tr) : Kd → Prop
  | .z => t = ⟨0, 0, 0⟩
  | .ro => t.wr = 0 ∧ t.all = 0 ∧ t.rd < 2 ^ N
  | .ra => RoT t
  | .nw k => t.wr = 2 ^ (N + k) ∧ t.all = 0 ∧ t.rd < 2 ^ N
  | .any => True
def compat : Kd → Kd → Bool
  | .z, _ | _, .z => true
  | .ro, .ro | .ro, .ra | .ra, .ro | .ra, .ra | .ro, .nw _ | .nw _, .ro => true
  | .nw j, .nw k => !(Nat.beq j k)
  | _, _ => false
theorem land_pow {N k r : Nat} (h : r < 2 ^ N) : Nat.land (2 ^ (N + k)) r = 0 := by
  apply Nat.eq_of_testBit_eq
  intro i
  show (2 ^ (N + k) &&& r).testBit i = _
  rw [Nat.testBit_and, Nat.testBit_two_pow, Nat.zero_testBit]
  by_cases e : N + k = i
  · subst e
    rw [Nat.testBit_lt_two_pow (Nat.lt_of_lt_of_le h (Nat.pow_le_pow_right (by omega) (by omega)))]; simp
  · simp [e]
theorem land_pow2 {N j k : Nat} (h : j ≠ k) : Nat.land (2 ^ (N + k)) (2 ^ (N + j)) = 0 := by
  apply Nat.eq_of_testBit_eq
  intro i
  show (2 ^ (N + k) &&& 2 ^ (N + j)).testBit i = _
  rw [Nat.testBit_and, Nat.testBit_two_pow, Nat.testBit_two_pow, Nat.zero_testBit]
  by_cases e : N + k = i
  · have : ¬ N + j = i := by omega
    simp [this]
  · simp [e]
theorem land_or (a b c : Nat) : Nat.land a (Nat.lor b c) = Nat.lor (Nat.land a b) (Nat.land a c) := Nat.and_or_distrib_left a b c
theorem compat_ok {N : Nat} {x y : Tr} {a b : Kd} (hc : compat a b = true) (hx : KdOf N x a) (hy : KdOf N y b) : clash x y = false := by
  have z1 : ∀ r, Nat.land 0 r = 0 := Nat.zero_and
  have z2 : ∀ r, Nat.land r 0 = 0 := Nat.and_zero
  have z3 : Nat.lor 0 0 = 0 := rfl
  have ro : ∀ {t : Tr}, KdOf N t .ro → RoT t := fun h => ⟨h.1, .inl h.2.1⟩
  have zl : ∀ {t u : Tr}, t = ⟨0, 0, 0⟩ → clash t u = false := fun {t u} h => by subst h; exact clash_triv_l rfl
  have zr : ∀ {t u : Tr}, u = ⟨0, 0, 0⟩ → clash t u = false := fun {t u} h => by subst h; exact clash_triv_r rfl
  cases a with
  | z => exact zl hx
  | ro => cases b with
    | z => exact zr hy
    | ro => exact clash_ro (ro hx) (ro hy)
    | ra => exact clash_ro (ro hx) hy
    | nw k =>
      obtain ⟨h1, h2, h3⟩ := hx
      obtain ⟨k1, k2, k3⟩ := hy
      simp only [clash, h1, h2, k1, k2, z1, land_pow h3]; rfl
    | any => cases hc
  | ra => cases b with
    | z => exact zr hy
    | ro => exact clash_ro hx (ro hy)
    | ra => exact clash_ro hx hy
    | nw k => cases hc
    | any => cases hc
  | nw k => cases b with
    | z => exact zr hy
    | ro =>
      obtain ⟨h1, h2, h3⟩ := hx
      obtain ⟨k1, k2, k3⟩ := hy
      simp only [clash, h1, h2, k1, k2, z1, land_or, z2, land_pow k3]; rfl
    | ra => cases hc
    | nw j =>
      obtain ⟨h1, h2, h3⟩ := hx
      obtain ⟨k1, k2, k3⟩ := hy
      have hne : j ≠ k := by
        rintro rfl
        simp [compat] at hc
      simp only [clash, h1, h2, k1, k2, land_or, land_pow k3, land_pow h3, land_pow2 hne]; rfl
    | any => cases hc
  | any => cases b with
    | z => exact zr hy
    | _ => cases hc
inductive Kinds3 (N : Nat) : List Tr → List Kd → Prop
  | nil : Kinds3 N [] []
  | cons {t : Tr} {k : Kd} {T : List Tr} {K : List Kd} : KdOf N t k → Kinds3 N T K → Kinds3 N (t :: T) (k :: K)
def okK3 : List Nat → List Kd → Nat → List (Nat × Kd) → Bool
  | _, [], _, _ => true
  | [], _ :: _, _, _ => false
  | a :: as, k :: ks, i, pre => (pre.all fun p => bit a p.1 || compat p.2 k) && okK3 as ks (i + 1) ((i, k) :: pre)
theorem okPairs_k3' {N : Nat} {T : List Tr} {K : List Kd} (h : Kinds3 N T K) : ∀ (as : List Nat) (i : Nat) (pre : List (Nat × Tr)) (preK : List (Nat × Kd)), okK3 as K i preK = true →
    (∀ p ∈ pre, ∃ k, (p.1, k) ∈ preK ∧ KdOf N p.2 k) → okPairs as T i pre = true := by
  induction h with
  | nil => intro as i pre preK _ _; simp [okPairs]
  | @cons t k T K ht _ ih =>
    intro as i pre preK hk hp
    cases as with
    | nil => cases hk
    | cons a as =>
      simp only [okK3, Bool.and_eq_true] at hk
      simp only [okPairs, fNat_eq]
      have hp' : ∀ p ∈ pre, ∃ k', (p.1, k') ∈ (i, k) :: preK ∧ KdOf N p.2 k' := fun p h => by
        obtain ⟨k', h1, h2⟩ := hp p h
        exact ⟨k', List.mem_cons_of_mem _ h1, h2⟩
      split
      · exact ih _ _ _ _ hk.2 hp'
      · have : (pre.all fun p => bit a p.1 || !clash p.2 t) = true := List.all_eq_true.2 fun p hpm => by
          obtain ⟨k', h1, h2⟩ := hp p hpm
          have := List.all_eq_true.1 hk.1 _ h1
          simp only [Bool.or_eq_true] at this ⊢
          rcases this with h | h
          · exact .inl h
          · exact .inr (by rw [compat_ok h h2 ht]; rfl)
        rw [this]
        refine ih _ _ _ _ hk.2 fun p hpm => ?_
        rcases List.mem_cons.1 hpm with rfl | hpm
        · exact ⟨k, List.mem_cons_self, ht⟩
        · exact hp' p hpm
theorem okPairs_k3 {N : Nat} {T : List Tr} {K : List Kd} {as : List Nat} (h : Kinds3 N T K) (hk : okK3 as K 0 [] = true) : okPairs as T 0 [] = true := okPairs_k3' h as 0 [] [] hk fun p hp => by cases hp
theorem DrawK.k3 {l : List Oper} {N : Nat} {Q : AX → St → Prop} {s : St} {T T' : List Tr} {K : List Kd} (hT : T = T') (hk : Kinds3 N T' K) (ho : okK3 (aheads l [] 0) K 0 [] = true) (q : Q .normal s) : DrawK l N Q s T := ⟨by rw [hT]; exact okPairs_k3 hk ho, q⟩
theorem Kinds3.z {N : Nat} {T : List Tr} {K : List Kd} (ht : Kinds3 N T K) : Kinds3 N (⟨0, 0, 0⟩ :: T) (.z :: K) := .cons rfl ht
theorem Kinds3.ro {N : Nat} {T : List Tr} {K : List Kd} {r : Nat} (h : r < 2 ^ N) (ht : Kinds3 N T K) : Kinds3 N (⟨r, 0, 0⟩ :: T) (.ro :: K) := .cons ⟨rfl, rfl, h⟩ ht
theorem rdTr_ro {N : Nat} {x : AV} (h : (rdTr x).rd < 2 ^ N) : KdOf N (rdTr x) .ro := ⟨(RoT.rdTr x).1, by cases x <;> rfl, h⟩
theorem Kinds3.rd {N : Nat} {T : List Tr} {K : List Kd} {x : AV} (h : (rdTr x).rd < 2 ^ N) (ht : Kinds3 N T K) : Kinds3 N (rdTr x :: T) (.ro :: K) := .cons (rdTr_ro h) ht
theorem Kinds3.ra {N : Nat} {T : List Tr} {K : List Kd} {t : Tr} (h : RoT t) (ht : Kinds3 N T K) : Kinds3 N (t :: T) (.ra :: K) := .cons h ht
theorem Kinds3.nw {N : Nat} {T : List Tr} {K : List Kd} {r n : Nat} (k : Nat) (hn : n = N + k) (h : r < 2 ^ N) (ht : Kinds3 N T K) : Kinds3 N (⟨r, 2 ^ n, 0⟩ :: T) (.nw k :: K) := .cons ⟨by rw [hn], rfl, h⟩ ht
theorem Kinds3.any {N : Nat} {T : List Tr} {K : List Kd} {t : Tr} (ht : Kinds3 N T K) : Kinds3 N (t :: T) (.any :: K) := .cons trivial ht
theorem bits0 {N : Nat} : 0 < 2 ^ N := Nat.two_pow_pos N
theorem bits1 {N m : Nat} (h : m < N) : bitsOf [m] < 2 ^ N := by
  show Nat.lor (Nat.pow 2 m) 0 < _
  rw [show Nat.lor (Nat.pow 2 m) 0 = 2 ^ m from Nat.or_zero _]
  exact Nat.pow_lt_pow_right (by omega) h
theorem bits2 {N m n : Nat} (h : m < N) (h' : n < N) : bitsOf [m, n] < 2 ^ N := by
  show Nat.lor (Nat.pow 2 m) (bitsOf [n]) < _
  exact Nat.or_lt_two_pow (Nat.pow_lt_pow_right (by omega) h) (bits1 h')
/-- Where a slice lies. -/
theorem rd_lt {H : AHeap} {sz : Nat} {x : AV} {es : List (List AV)} (h : SlH H sz x es) (N : Nat) (hN : H.next ≤ N) : (rdTr x).rd < 2 ^ N := by
  rcases h with (rfl | ⟨_, rfl | rfl⟩) | ⟨n, e, off, b, rfl, hn, _⟩
  · exact bits0
  · exact bits0
  · exact bits0
  · exact bits1 (by omega)
end Go.Am
/-! A heap that goes on from another: what was there is there still. -/
namespace Go.Am
structure Ext (H0 H : AHeap) : Prop where
  next : H0.next ≤ H.next
  get : ∀ k, k < H0.next → H.get k = H0.get k
theorem Ext.refl (H : AHeap) : Ext H H := ⟨Nat.le_refl _, fun _ _ => rfl⟩
theorem Ext.push {H0 H : AHeap} (h : Ext H0 H) (b : Blk) : Ext H0 (H.push b) := ⟨by rw [next_push]; have := h.next; omega, fun k hk => by rw [get_push, if_neg (by have := h.next; omega)]; exact h.get k hk⟩
theorem Ext.set {H0 H : AHeap} (h : Ext H0 H) {m : Nat} (hm : H0.next ≤ m) (b : Blk) : Ext H0 (H.set m b) := ⟨by rw [next_set]; exact h.next, fun k hk => by rw [get_set, if_neg (by omega)]; exact h.get k hk⟩
theorem Ext.trans {A B C : AHeap} (h : Ext A B) (k : Ext B C) : Ext A C := ⟨Nat.le_trans h.next k.next, fun n hn => by rw [k.get n (Nat.lt_of_lt_of_le hn h.next), h.get n hn]⟩
theorem SlH.ext {H0 H : AHeap} {sz : Nat} {x : AV} {es : List (List AV)} (h : SlH H0 sz x es) (k : Ext H0 H) : SlH H sz x es := by
  rcases h with h | ⟨n, e, off, b, rfl, hl, hb, he, hi, hs, ho, ht⟩
  · exact .inl h
  · exact .inr ⟨n, e, off, b, rfl, Nat.lt_of_lt_of_le hl k.next, by rw [k.get n hl]; exact hb, he, hi, hs, ho, ht⟩
end Go.Am
namespace Go.Am
/-! Rules whose side lies in the table of types, told by a condition. -/
def primL0 : Nat → AHeap → Plan → Option (AV × AHeap × Tr) := primL
def builtinA0 : Env → Builtin → Array TypeId → TypeId → List AV → Plan := builtinA
theorem index_osM (E : Env) (lo : Nat) (H : AHeap) (t : TypeId) (n e off len : Nat) (κ : IntKind) (i : Int) : primL lo H (indexAddrA E t (.os n e off len) (.v (.int κ i))) = bif (slSz E.P t).isSome then (H.get n).bind fun b => if b.ep = e ∧ b.it.isNone = true ∧ off + len ≤ b.es.length ∧ some b.sz = slSz E.P t ∧ 0 ≤ i ∧ i < len then some (.op n e (off + i.toNat) 0, H, ⟨bitsOf [n], 0, 0⟩) else none else primL0 lo H (indexAddrA E t (.os n e off len) (.v (.int κ i))) := by
  cases h : (slSz E.P t).isSome with
  | true => rw [index_os E lo H t n e off len κ i h]; rfl
  | false => rfl
theorem len_osM (E : Env) (lo : Nat) (H : AHeap) (t ty : TypeId) (n e off len : Nat) : primL lo H (builtinA E .len #[t] ty [.os n e off len]) = bif isSlT E.P t then (H.get n).bind fun b => (sliceElems b e off len).bind fun es => some (.v (.int .i64 es.length), H, ⟨bitsOf [n], 0, 0⟩) else primL0 lo H (builtinA E .len #[t] ty [.os n e off len]) := by
  cases h : isSlT E.P t with
  | true => rw [len_os E lo H t ty n e off len h]; rfl
  | false => rfl
theorem len_strM (E : Env) (t ty : TypeId) (s : ByteArray) : builtinA E .len #[t] ty [.v (.string s)] = bif isStrT E.P t then .val (.v (.int .i64 s.size)) else builtinA0 E .len #[t] ty [.v (.string s)] := by
  cases h : isStrT E.P t with
  | true => rw [len_str E t ty s h]; rfl
  | false => rfl
theorem len_e0M (E : Env) (t ty : TypeId) : builtinA E .len #[t] ty [.e0] = bif isSlT E.P t then .val (.v (.int .i64 0)) else builtinA0 E .len #[t] ty [.e0] := by
  cases h : isSlT E.P t with
  | true => rw [len_e0 E t ty h]; rfl
  | false => rfl
theorem len_nilM (E : Env) (t ty : TypeId) : builtinA E .len #[t] ty [.v (.slice none 0 0)] = bif isSlT E.P t then .val (.v (.int .i64 0)) else builtinA0 E .len #[t] ty [.v (.slice none 0 0)] := by
  cases h : isSlT E.P t with
  | true => rw [len_nil E t ty h]; rfl
  | false => rfl
theorem len_slM (E : Env) (t ty : TypeId) (sz : Nat) (es : List (List AV)) : builtinA E .len #[t] ty [.sl sz es] = bif isSlT E.P t then .val (.v (.int .i64 es.length)) else builtinA0 E .len #[t] ty [.sl sz es] := by
  cases h : isSlT E.P t with
  | true => rw [len_sl E t ty sz es h]; rfl
  | false => rfl
end Go.Am

/-! What simp need not look into. -/
namespace Go.Am
def nthS {α : Type} (d : α) : List α → Nat → α
  | [], _ => d
  | a :: _, 0 => a
  | _ :: l, n + 1 => nthS d l n
theorem nthS_eq {α : Type} (d : α) (l : List α) (n : Nat) : nthS d l n = nth d l n := by
  induction l generalizing n with
  | nil => rfl
  | cons a l ih => cases n with
    | zero => rfl
    | succ n => exact ih n
theorem get_nthS (n : Nat) (c : List (List AV)) (t : Nat) : Slots.get ⟨n, c⟩ t = nthS (.tup []) (nthS [] c (t / 8)) (t % 8) := by rw [get_nth, nthS_eq, nthS_eq]
theorem nthS_zero {α : Type} (d a : α) (l : List α) : nthS d (a :: l) 0 = a := rfl
theorem nthS_succ {α : Type} (d a : α) (l : List α) (n : Nat) : nthS d (a :: l) (n + 1) = nthS d l n := rfl
@[congr] theorem aev_c (tm : Slots) {x y : Operand} (h : x = y) : aev tm x = aev tm y := by rw [h]
@[congr] theorem get_c (s : Slots) (t : Nat) : Slots.get s t = Slots.get s t := rfl
@[congr] theorem nthS_c {α : Type} (d : α) (l : List α) {n m : Nat} (h : n = m) : nthS d l n = nthS d l m := by rw [h]
@[congr] theorem plan_c (E : Env) (o : Oper) (ρ : Operand → AV) : plan E o ρ = plan E o ρ := rfl
@[congr] theorem primL_c (lo : Nat) (H : AHeap) {p q : Plan} (h : p = q) : primL lo H p = primL lo H q := by rw [h]
@[congr] theorem hget_c (H : AHeap) {n m : Nat} (h : n = m) : AHeap.get H n = AHeap.get H m := by rw [h]
end Go.Am
/-! Slices that grow by one. -/
namespace Go.Am
/-- x: nil, or a block of its own, by a name from base on. -/
def OwS (H : AHeap) (base : Nat) (elem sz : Nat) (x : AV) (es : List (List AV)) : Prop :=
  (es = [] ∧ (x = .e0 ∨ x = .v (.slice none 0 0))) ∨ ∃ n e, x = .os n e 0 es.length ∧ base ≤ n ∧ n < H.next ∧ H.get n = some ⟨elem, sz, e, es, none⟩
theorem OwS.slh {H : AHeap} {base elem sz : Nat} {x : AV} {es : List (List AV)} (h : OwS H base elem sz x es) : SlH H sz x es := by
  rcases h with ⟨rfl, h⟩ | ⟨n, e, rfl, _, hn, hg⟩
  · exact .inl (.inr ⟨rfl, h⟩)
  · exact .inr ⟨n, e, 0, _, rfl, hn, hg, rfl, rfl, rfl, by simp, by simp⟩
theorem OwS.cells {H : AHeap} {base elem sz : Nat} {x : AV} {es : List (List AV)} (h : OwS H base elem sz x es) : cellsOf x = some [x] := by
  rcases h with ⟨rfl, rfl | rfl⟩ | ⟨n, e, rfl, _, hn, hg⟩ <;> rfl
theorem OwS.nil (H : AHeap) (base elem sz : Nat) : OwS H base elem sz (.v (.slice none 0 0)) [] := .inl ⟨rfl, .inr rfl⟩
/-- The heap goes on; names from base on stay as they are. -/
theorem OwS.on {H H' : AHeap} {base elem sz : Nat} {x : AV} {es : List (List AV)} (h : OwS H base elem sz x es) (hn : H.next ≤ H'.next) (hg : ∀ k, base ≤ k → k < H.next → H'.get k = H.get k) : OwS H' base elem sz x es := by
  rcases h with h | ⟨n, e, rfl, hb, hl, hget⟩
  · exact .inl h
  · exact .inr ⟨n, e, rfl, hb, Nat.lt_of_lt_of_le hl hn, by rw [hg n hb hl]; exact hget⟩
theorem OwS.push {H : AHeap} {base elem sz : Nat} {x : AV} {es : List (List AV)} (h : OwS H base elem sz x es) (b : Blk) : OwS (H.push b) base elem sz x es :=
  h.on (by rw [next_push]; omega) fun k _ hk => by rw [get_push, if_neg (by omega)]
theorem OwS.set {H : AHeap} {base elem sz : Nat} {x : AV} {es : List (List AV)} (h : OwS H base elem sz x es) {m : Nat} (hm : m < base) (b : Blk) : OwS (H.set m b) base elem sz x es :=
  h.on (by rw [next_set]; exact Nat.le_refl _) fun k hk _ => by rw [get_set, if_neg (by omega)]
theorem app_one_new (E : Env) (lo : Nat) (H : AHeap) {t elem bytes sz : Nat} (h : appInfo E.P t = some (elem, bytes, sz)) (hr : bytes ≤ roomMax) (cs : List AV) {s : AV} (hs : s = .e0 ∨ s = .v (.slice none 0 0)) :
    primL lo (H.push ⟨elem, sz, 0, [cs], none⟩) (appendA E t s (.os H.next 0 0 1)) = some (.os (H.next + 1) 0 0 1, (H.push ⟨elem, sz, 0, [cs], none⟩).push ⟨elem, sz, 0, [cs], none⟩, ⟨bitsOf [H.next], 2 ^ (H.next + 1), 0⟩) := by
  have hx : SlH (H.push ⟨elem, sz, 0, [cs], none⟩) sz (.os H.next 0 0 1) [cs] := .inr ⟨H.next, 0, 0, ⟨elem, sz, 0, [cs], none⟩, rfl, by rw [next_push]; omega, by rw [get_push, if_pos rfl], rfl, rfl, rfl, by simp, by simp⟩
  exact append_new E lo hs h hx (by simp) (by simpa using hr)
theorem app_one_os (E : Env) (lo : Nat) {H : AHeap} {t elem bytes sz n e len : Nat} {es : List (List AV)} (h : appInfo E.P t = some (elem, bytes, sz)) (hg : H.get n = some ⟨elem, sz, e, es, none⟩) (hn : n < H.next) (hl : len = es.length) (hlo : lo ≤ n) (hr : (len + 1) * bytes ≤ roomMax) (cs : List AV) :
    primL lo (H.push ⟨elem, sz, 0, [cs], none⟩) (appendA E t (.os n e 0 len) (.os H.next 0 0 1)) = some (.os n (e + 1) 0 (len + 1), (H.push ⟨elem, sz, 0, [cs], none⟩).set n ⟨elem, sz, e + 1, es ++ [cs], none⟩, ⟨bitsOf [n, H.next], 2 ^ n, 0⟩) := by
  obtain ⟨z, h1, h2, h3, h4, h5⟩ := appInfo_ok h
  subst hl
  have hb : (H.push ⟨elem, sz, 0, [cs], none⟩).get n = some ⟨elem, sz, e, es, none⟩ := by rw [get_push, if_neg (by omega)]; exact hg
  have hc : (H.push ⟨elem, sz, 0, [cs], none⟩).get H.next = some ⟨elem, sz, 0, [cs], none⟩ := by rw [get_push, if_pos rfl]
  simp only [appendA, h1, h2, h3, h4, if_neg h5, primL_prim2, hb, hc, Option.bind_some, if_neg (Nat.ne_of_lt hn), sliceElems]
  rw [if_pos (by simp), Option.bind_some, if_pos (by simp)]
  have hi : ((([cs] : List (List AV)).drop 0).take 1).isEmpty = false := rfl
  rw [hi]
  simp only [Bool.false_eq_true, if_false]
  rw [if_pos (by simpa using hr)]
  simp only [Option.bind_some, effL_set', if_pos hlo]
  simp
theorem OwS.add1 (E : Env) (lo : Nat) {H : AHeap} {t elem bytes sz base : Nat} {x : AV} {es : List (List AV)} (ho : OwS H base elem sz x es) (h : appInfo E.P t = some (elem, bytes, sz)) (hlo : lo ≤ base) (hbn : base ≤ H.next) (hr : (es.length + 1) * bytes ≤ roomMax) (cs : List AV) :
    ∃ x' H' tr, primL lo (H.push ⟨elem, sz, 0, [cs], none⟩) (appendA E t x (.os H.next 0 0 1)) = some (x', H', tr) ∧ OwS H' base elem sz x' (es ++ [cs]) ∧ H.next ≤ H'.next ∧ ∀ k, k < base → H'.get k = H.get k := by
  rcases ho with ⟨rfl, hs⟩ | ⟨n, e, rfl, hb, hl, hg⟩
  · refine ⟨_, _, _, app_one_new E lo H h (by simpa using hr) cs hs, .inr ⟨H.next + 1, 0, rfl, by omega, by simp only [next_push]; omega, by simp only [get_push, next_push, if_true]; rfl⟩, by simp only [next_push]; omega, fun k hk => by rw [get_push, if_neg (by rw [next_push]; omega), get_push, if_neg (by omega)]⟩
  · refine ⟨_, _, _, app_one_os E lo h hg hl rfl (by omega) hr cs, .inr ⟨n, e + 1, by rw [List.length_append]; rfl, hb, by simp only [next_set, next_push]; omega, by rw [get_set, if_pos rfl]⟩, by simp only [next_set, next_push]; omega, fun k hk => by rw [get_set, if_neg (by omega), get_push, if_neg (by omega)]⟩
end Go.Am

/-! By the plan of an operation. -/
namespace Go.Am
structure RKp (E : Env) (ys : List (Nat × LRec)) (lo : Nat) (ops : List Oper) (o : Oper) (rest : List Oper) (tm : Slots) (H : AHeap) (acc : List Tr) (K : St → List Tr → Prop) (p : Plan) : Prop where
  ex : plan E o (aev tm) = p → RKy E ys lo ops o rest ⟨tm, H⟩ acc K
section
variable {E : Env} {ys : List (Nat × LRec)} {lo : Nat} {ops rest : List Oper} {o : Oper} {acc : List Tr} {K : St → List Tr → Prop} {tm tm1 : Slots} {H H' : AHeap} {x : AV} {tr : Tr} {f : FuncId} {args : List AV} {p : Plan}
theorem RKy.pl (hp : plan E o (aev tm) = p) (h : RKp E ys lo ops o rest tm H acc K p) : RKy E ys lo ops o rest ⟨tm, H⟩ acc K := h.ex hp
theorem RKp.op (hp : primL lo H p = some (x, H', tr)) (hs : putS tm o.dst x some = some tm1) (hk : RK E ys lo ops rest ⟨tm1, H'⟩ (tr :: acc) K) : RKp E ys lo ops o rest tm H acc K p := ⟨fun e => RKy.op (by rw [e]; exact hp) hs hk⟩
theorem RKp.call (hc : CallR E ys lo f args H x H' tr) (hs : putS tm o.dst x some = some tm1) (hk : RK E ys lo ops rest ⟨tm1, H'⟩ (tr :: acc) K) : RKp E ys lo ops o rest tm H acc K (.call f args) := ⟨fun e => RKy.call e hc hs hk⟩
theorem RKp.callR (hc : CallRo E ys lo f args H x) (hs : putS tm o.dst x some = some tm1) (hk : ∀ tr, RoT tr → RK E ys lo ops rest ⟨tm1, H⟩ (tr :: acc) K) : RKp E ys lo ops o rest tm H acc K (.call f args) := ⟨fun e => RKy.callR e hc hs hk⟩
theorem RKp.callO (hc : CallO E ys lo f args H x H') (hs : putS tm o.dst x some = some tm1) (hk : ∀ tr, RK E ys lo ops rest ⟨tm1, H'⟩ (tr :: acc) K) : RKp E ys lo ops o rest tm H acc K (.call f args) := ⟨fun e => RKy.callO e hc hs hk⟩
theorem RKp.callE {P : AV → AHeap → Prop} {tmf : AV → Slots} (hc : CallE E ys lo f args H P) (hs : ∀ x, putS tm o.dst x some = some (tmf x)) (hk : ∀ x H' tr, P x H' → RK E ys lo ops rest ⟨tmf x, H'⟩ (tr :: acc) K) : RKp E ys lo ops o rest tm H acc K (.call f args) := ⟨fun e => RKy.callE e hc hs hk⟩
theorem RKp.callRE {P : AV → Prop} {tmf : AV → Slots} (hc : CallRoE E ys lo f args H P) (hs : ∀ x, putS tm o.dst x some = some (tmf x)) (hk : ∀ x tr, RoT tr → P x → RK E ys lo ops rest ⟨tmf x, H⟩ (tr :: acc) K) : RKp E ys lo ops o rest tm H acc K (.call f args) := ⟨fun e => RKy.callRE e hc hs hk⟩
end
theorem un_notP (P : Program) (b : Bool) : plainV (det P (Op.unary .not (.bool b))) = some (.v (.bool (!b))) := rfl
theorem un_negP (P : Program) (k : IntKind) (n : Int) : plainV (det P (Op.unary .neg (.int k n))) = some (.v (.int k (k.wrap (0 - n)))) := rfl
attribute [go_sem] un_notP un_negP get_nthS nthS_zero nthS_succ wrap_i64 wrap_i32 if_pos' if_neg' fieldAddrA_op fieldAddrA_fp pick_t pick_f index_osM len_osM len_strM len_e0M len_nilM len_slM List.toList_toArray
end Go.Am

namespace Go.Am
set_option linter.all false
theorem zO {P : Prop} (h : P := by (first | omega | (simp only [next_push, next_set, next_empty]; done) | (simp only [next_push, next_set, next_empty]; omega))) : P := h
/-- Side conditions. -/
theorem zX {P : Prop} (h : P := by (first | ((repeat (first | exact Ext.refl _ | assumption | apply Ext.push | (refine Ext.set ?_ (by exact zO) _))); done) | fail)) : P := h
theorem zD {P : Prop} (h : P := by (first | assumption | rfl | omega | (refine ⟨?_, ?_⟩ <;> omega) | exact zX)) : P := h
theorem zL {P : Prop} (h : P := by (first | rfl | (apply ite_ok; (first | assumption | rfl | omega | (refine ⟨?_, ?_⟩ <;> omega)); rfl))) : P := h
/-- A condition, plainly. -/
theorem zB {c b : Bool} {P : Prop} (h : c = b) (e : (c = b) = P := by ((try simp only [decide_eq_true_eq, decide_eq_false_iff_not, Bool.and_eq_true, Bool.or_eq_true, Bool.and_eq_false_iff, Bool.or_eq_false_iff, Bool.not_eq_true', Bool.not_eq_false', Bool.not_true, Bool.not_false, Classical.not_not, Int.not_lt, Int.not_le, reduceCtorEq, not_true_eq_false, not_false_eq_true, decide_true, decide_false, Int.reduceEq, Int.reduceLT, Int.reduceLE]); rfl)) : P := e ▸ h
theorem zR {P : Prop} (h : P := by (first | exact bits0 | (refine bits1 ?_; exact zO) | (refine bits2 ?_ ?_ <;> exact zO) | (refine rd_lt (by assumption) _ ?_; exact zO))) : P := h
section
variable {E : Env} {ys : List (Nat × LRec)} {lo : Nat} {s : St} {ops rest : List Oper} {o : Oper} {acc : List Tr} {K : St → List Tr → Prop} {tm tm1 : Slots} {H H' : AHeap} {x y : AV} {tr : Tr} {f : FuncId} {args : List AV} {p : Plan} {want : Bool}
theorem zka (h : RKy E ys lo ops o rest s acc K) (hg : o.guard = none := by rfl) : RK E ys lo ops (o :: rest) s acc K := RK.free hg h
theorem zkb (h : RKp E ys lo ops o rest tm H acc K p) (hp : plan E o (aev tm) = p := by ((try simp only [go_sem, Nat.reduceDiv, Nat.reduceMod, Nat.reduceAdd, Nat.reduceSub, Nat.reduceEqDiff, Nat.reduceLeDiff, Nat.reduceLT, Nat.reduceMul, reduceIte, Nat.reducePow, Int.reduceEq]); rfl)) : RKy E ys lo ops o rest ⟨tm, H⟩ acc K := RKy.pl hp h
theorem zkc {j t : Nat} (h : RKg E ys lo ops o rest ⟨tm, H⟩ acc K y want) (hg : o.guard = some (j, want) := by rfl) (hj : (ops[j]?).bind (·.dst) = some t := by rfl) (ht : tm.get t = y := by ((simp only [Nat.reduceDiv, Nat.reduceMod, get_nthS, nthS_zero, nthS_succ]); rfl)) : RK E ys lo ops (o :: rest) ⟨tm, H⟩ acc K := RK.guard hg hj ht h
theorem zkd (hk : RK E ys lo ops rest ⟨tm1, H⟩ (⟨0, 0, 0⟩ :: acc) K) (hs : putS tm o.dst (.tup []) some = some tm1 := by rfl) : RKg E ys lo ops o rest ⟨tm, H⟩ acc K (.v (.bool true)) false := RKg.tf hs hk
theorem zke (hk : RK E ys lo ops rest ⟨tm1, H⟩ (⟨0, 0, 0⟩ :: acc) K) (hs : putS tm o.dst (.tup []) some = some tm1 := by rfl) : RKg E ys lo ops o rest ⟨tm, H⟩ acc K (.v (.bool false)) true := RKg.ft hs hk
theorem zkf (hk : RK E ys lo ops rest ⟨tm1, H⟩ (⟨0, 0, 0⟩ :: acc) K) (hs : putS tm o.dst (.tup []) some = some tm1 := by rfl) : RKg E ys lo ops o rest ⟨tm, H⟩ acc K (.tup []) want := RKg.u hs hk
variable {rd : Bool} {Q : AX → St → Prop} {l : List Oper}
theorem zva {id : Nat} (h : RK E ys lo l l ⟨tm, H⟩ [] (DrawK l H.next Q)) (hb : (okBack l 0 && okPairs (aheads l [] 0) (slotTrs l l) 0 []) = true := by kernel_rfl) : V E rd ys lo (.region id (List.toArray l) true) ⟨tm, H⟩ Q := V.regdK hb h
theorem zvb {N : Nat} {T : List Tr} (q : Q .normal s) (d : okPairs (aheads l [] 0) T 0 [] = true := by ((simp only [List.reverse_cons, List.reverse_nil, List.nil_append, List.cons_append]); decide +kernel)) : DrawK l N Q s T := ⟨d, q⟩
theorem zvk {N : Nat} {T : List Tr} {K : List Kd} (h : Kinds3 N T K := by (first | ((repeat (first | exact Kinds3.nil | apply Kinds3.z | (apply Kinds3.ro; (focus (exact zR))) | (apply Kinds3.rd; (focus (exact zR))) | (apply Kinds3.nw 0; (focus (exact zO)); (focus (exact zR))) | (apply Kinds3.nw 1; (focus (exact zO)); (focus (exact zR))) | (apply Kinds3.nw 2; (focus (exact zO)); (focus (exact zR))) | (apply Kinds3.ra; (focus (first | exact RoT.zero | exact RoT.rd | exact RoT.all | exact RoT.rdTr _ | assumption))) | apply Kinds3.any)); done) | fail)) : Kinds3 N T K := h
theorem zvc {N : Nat} {T T' : List Tr} {K : List Kd} (q : Q .normal s) (hT : T = T' := by ((simp only [List.reverse_cons, List.reverse_nil, List.nil_append, List.cons_append]); rfl)) (hk : Kinds3 N T' K := by exact zvk) (ho : okK3 (aheads l [] 0) K 0 [] = true := by decide +kernel) : DrawK l N Q s T := DrawK.k3 hT hk ho q
theorem zvd {c : Operand} {a b : Code} (h : V E rd ys lo a s Q) (hc : aev s.tm c = .v (.bool true) := by rfl) : V E rd ys lo (.cond c a b) s Q := V.condT hc h
theorem zve {c : Operand} {a b : Code} (h : V E rd ys lo b s Q) (hc : aev s.tm c = .v (.bool false) := by rfl) : V E rd ys lo (.cond c a b) s Q := V.condF hc h
theorem zvf {c : Operand} {a b : Code} {t : Bool} (ht : t = true → V E rd ys lo a s Q) (hf : t = false → V E rd ys lo b s Q) (hc : aev s.tm c = .v (.bool t) := by rfl) : V E rd ys lo (.cond c a b) s Q := V.cond hc ht hf
theorem zbt {id id' : Nat} (h : Q (.exit id') s) (hn : id' ≠ id := by decide) : BlockQ id Q (.exit id') s := BlockQ.there hn h
theorem zfa {fn : Func} {K : AV → AHeap → Prop} (hr : fn.results = #[]) (h : K (.tup []) s.H) : FnQ E fn K .normal s := FnQ.normal (res0 hr) rfl h
theorem zfb {fn : Func} {K : AV → AHeap → Prop} (hr : fn.results = #[]) (h : K (.tup []) s.H) : FnQ E fn K .ret s := FnQ.ret (res0 hr) rfl h
theorem zfc {fn : Func} {K : AV → AHeap → Prop} {t : Tmp} {r : AV} (hr : fn.results = #[.tmp t]) (h : K r s.H) (e : s.tm.get t = r := by ((simp only [Nat.reduceDiv, Nat.reduceMod, get_nthS, nthS_zero, nthS_succ]); rfl)) : FnQ E fn K .ret s := FnQ.ret (res1 hr) e h
theorem zfd {fn : Func} {K : AV → AHeap → Prop} {t u : Tmp} {r : AV} (hr : fn.results = #[.tmp t, .tmp u]) (h : K r s.H) (e : AV.tup [s.tm.get t, s.tm.get u] = r := by ((simp only [Nat.reduceDiv, Nat.reduceMod, get_nthS, nthS_zero, nthS_succ]); rfl)) : FnQ E fn K .ret s := FnQ.ret (res2 hr) e h
end
/-- A function entered: its slots. -/
theorem zvin {E : Env} {ys : List (Nat × LRec)} {lo : Nat} {f : FuncId} {fn : Func} {body : Code} {args : List AV} {H : AHeap} {K : AV → AHeap → Prop} {tm : Slots} {n : Nat} (hf : E.P.funcs[f]? = some fn) (hn : fn.ntmps = n) (h : V E false ys lo body ⟨tm, H⟩ (FnQ E fn K)) (hb : fn.body = some body := by rfl) (hl : args.length ≤ fn.ntmps := by exact Nat.le_of_ble_eq_true rfl) (ht : Slots.of n args = tm := by ((simp only [Slots.of, Nat.reduceAdd, Nat.reduceDiv, rows8P, row8]); rfl)) : WC E ys lo f args H K := WC.enter hf hb hl (by rw [hn]; exact ht) h
end Go.Am

/-! The same for walks whose guards stand in values. -/
namespace Go.Am
theorem zW {o : Oper} {ops : List Oper} {tm : Slots} {b : Bool} (h : wantedA o ops tm = some b := by (first | (apply wantT; rfl; rfl; (simp only [Nat.reduceDiv, Nat.reduceMod, get_nth, nth_zero, nth_succ]; rfl)) | (apply wantF; rfl; rfl; (simp only [Nat.reduceDiv, Nat.reduceMod, get_nth, nth_zero, nth_succ]; rfl)) | (apply wantTg; rfl; rfl; (simp only [Nat.reduceDiv, Nat.reduceMod, get_nth, nth_zero, nth_succ]; rfl)) | (apply wantFg; rfl; rfl; (simp only [Nat.reduceDiv, Nat.reduceMod, get_nth, nth_zero, nth_succ]; rfl)) | (apply wantU; rfl; rfl; (simp only [Nat.reduceDiv, Nat.reduceMod, get_nth, nth_zero, nth_succ]; rfl)))) : wantedA o ops tm = some b := h
section
variable {E : Env} {ys : List (Nat × LRec)} {lo : Nat} {s s1 : St} {ops : List Oper} {T : List Tr} {tm tm1 : Slots} {H H' : AHeap} {x y : AV} {rd : Bool} {Q : AX → St → Prop} {l : List Oper}
theorem zE {as : List Nat} (h : okPairs as T 0 [] = true := by (first | (apply okPairs_kinds; (focus ((repeat (first | exact Kinds.nil | (apply Kinds.ro; (first | exact RoT.zero | exact RoT.rd | exact RoT.all | exact RoT.rdTr _ | assumption)) | apply Kinds.any)); done)); decide +kernel) | kernel_rfl)) : okPairs as T 0 [] = true := h
theorem zK {l : List Oper} (h : (okBack l 0 && okPairs (aheads l [] 0) (slotTrs l l) 0 []) = true := by kernel_rfl) : (okBack l 0 && okPairs (aheads l [] 0) (slotTrs l l) 0 []) = true := h
end
end Go.Am

namespace Go.Am
set_option linter.all false
/-- A trace that reads, and writes new names alone. -/
def NcT (N : Nat) (t : Tr) : Prop := t.rd = 0 ∧ (∀ r, r < 2 ^ N → Nat.land t.wr r = 0) ∧ (t.all = 0 ∨ t.all = 1)
theorem NcT.le {N M : Nat} {t : Tr} (h : NcT M t) (hl : N ≤ M) : NcT N t := ⟨h.1, fun r hr => h.2.1 r (Nat.lt_of_lt_of_le hr (Nat.pow_le_pow_right (by omega) hl)), h.2.2⟩
theorem land_new {N k r : Nat} (h : r < 2 ^ N) : Nat.land (newBits N k) r = 0 := by
  apply Nat.eq_of_testBit_eq
  intro i
  show (2 ^ N * (2 ^ k - 1) &&& r).testBit i = _
  rw [Nat.testBit_and, Nat.zero_testBit, Nat.testBit_two_pow_mul]
  by_cases hi : N ≤ i
  · rw [Nat.testBit_lt_two_pow (Nat.lt_of_lt_of_le h (Nat.pow_le_pow_right (by omega) hi))]; simp
  · simp [hi]
theorem NcT.new (N k a : Nat) (h : a = 0 ∨ a = 1) : NcT N ⟨0, newBits N k, a⟩ := ⟨rfl, fun r hr => land_new hr, h⟩
/-- A call that hands new blocks over. -/
def CallN (E : Env) (ys : List (Nat × LRec)) (lo : Nat) (f : FuncId) (args : List AV) (H : AHeap) (x : AV) (H' : AHeap) : Prop := ∃ tr, NcT H.next tr ∧ CallR E ys lo f args H x H' tr
section
variable {E : Env} {ys : List (Nat × LRec)} {lo : Nat} {f : FuncId} {args : List AV} {H H' : AHeap} {ops rest : List Oper} {o : Oper} {acc : List Tr} {K : St → List Tr → Prop} {tm tm1 : Slots} {x : AV}
theorem RKp.callN (hc : CallN E ys lo f args H x H') (hs : putS tm o.dst x some = some tm1) (hk : ∀ tr, NcT H.next tr → RK E ys lo ops rest ⟨tm1, H'⟩ (tr :: acc) K) : RKp E ys lo ops o rest tm H acc K (.call f args) := by
  obtain ⟨tr, h1, h2⟩ := hc
  exact RKp.call h2 hs (hk tr h1)
theorem WC.ownN {x : Nat → AV} {bs : Nat → List Blk} (hpol : E.pol f = .own)
    (hc : ∀ lo' H', (lo' = H.next ∧ H' = H) ∨ (lo' = 0 ∧ H' = .empty ∧ args.all nf = true) → WC E [] lo' f args H' fun r H'' => Hands H'' lo' r x bs) : CallN E ys lo f args H (x H.next) (pushAll H (bs H.next)) := by
  cases hn : args.all nf with
  | true =>
    obtain ⟨n, r, H'', h1, h2⟩ := hc 0 .empty (.inr ⟨rfl, rfl, hn⟩)
    obtain ⟨x', bs', ⟨rfl, rfl⟩, h4⟩ := WC.own (K := fun x' bs' => x' = x ∧ bs' = bs) hpol hn ⟨n, r, H'', h1, x, bs, h2, rfl, rfl⟩
    exact ⟨_, NcT.new _ _ _ (.inl rfl), h4 ys lo H⟩
  | false =>
    obtain ⟨n, r, H'', h1, h2⟩ := hc H.next H (.inl ⟨rfl, rfl⟩)
    obtain ⟨x', bs', ⟨rfl, rfl⟩, h4⟩ := WC.ownH (K := fun x' bs' => x' = x ∧ bs' = bs) (ys := ys) (lo := lo) hpol hn ⟨n, r, H'', h1, x, bs, h2, rfl, rfl⟩
    exact ⟨_, NcT.new _ _ _ (.inr rfl), h4⟩
end
section
variable {E : Env} {ys : List (Nat × LRec)} {lo : Nat} {f : FuncId} {args : List AV} {H H' : AHeap} {x : AV}
theorem WC.effE {K : AV → AHeap → Prop} (hpol : E.pol f = .eff) (hc : WC E ys lo f args H K) : CallE E ys lo f args H K := by
  obtain ⟨x, H', h1, h2⟩ := WC.eff hpol hc
  exact ⟨x, H', _, h2, h1⟩
theorem WC.effO (hpol : E.pol f = .eff) (hc : WC E ys lo f args H fun r G => r = x ∧ G = H') : CallO E ys lo f args H x H' := by
  obtain ⟨y, G, ⟨rfl, rfl⟩, h2⟩ := WC.eff hpol hc
  exact ⟨_, h2⟩
end
inductive Kf where
  | z
  | ro
  | ra
  | nw (k : Nat)
  | nc
  | any
def KfOf (N : Nat) (t : Tr) : Kf → Prop
  | .z => KdOf N t .z
  | .ro => KdOf N t .ro
  | .ra => KdOf N t .ra
  | .nw k => KdOf N t (.nw k)
  | .nc => NcT N t
  | .any => True
def compatF : Kf → Kf → Bool
  | .z, _ | _, .z => true
  | .ro, .ro | .ro, .ra | .ra, .ro | .ra, .ra | .ro, .nw _ | .nw _, .ro | .ro, .nc | .nc, .ro => true
  | .nw j, .nw k => !(Nat.beq j k)
  | _, _ => false
theorem compatF_ok {N : Nat} {x y : Tr} {a b : Kf} (hc : compatF a b = true) (hx : KfOf N x a) (hy : KfOf N y b) : clash x y = false := by
  have z1 : ∀ r, Nat.land 0 r = 0 := Nat.zero_and
  have z2 : ∀ r, Nat.land r 0 = 0 := Nat.and_zero
  have z3 : Nat.lor 0 0 = 0 := rfl
  have z4 : ∀ r, Nat.lor r 0 = r := Nat.or_zero
  have zl : ∀ {t u : Tr}, t = ⟨0, 0, 0⟩ → clash t u = false := fun {t u} h => by subst h; exact clash_triv_l rfl
  have zr : ∀ {t u : Tr}, u = ⟨0, 0, 0⟩ → clash t u = false := fun {t u} h => by subst h; exact clash_triv_r rfl
  have ron : ∀ {t u : Tr}, KdOf N t .ro → NcT N u → clash t u = false ∧ clash u t = false := by
    intro t u h k
    obtain ⟨h1, h2, h3⟩ := h
    obtain ⟨k1, k2, k3⟩ := k
    have := k2 _ h3
    constructor
    · simp only [clash, h1, h2, k1, z1, z2, this]
      rcases k3 with k3 | k3 <;> simp only [k3] <;> rfl
    · simp only [clash, h1, h2, k1, z1, z2, z4, this]
      rcases k3 with k3 | k3 <;> simp only [k3] <;> rfl
  cases a with
  | z => exact zl hx
  | ro => cases b with
    | z => exact zr hy
    | ro => exact compat_ok (N := N) (a := .ro) (b := .ro) rfl hx hy
    | ra => exact compat_ok (N := N) (a := .ro) (b := .ra) rfl hx hy
    | nw k => exact compat_ok (N := N) (a := .ro) (b := .nw k) rfl hx hy
    | nc => exact (ron hx hy).1
    | any => cases hc
  | ra => cases b with
    | z => exact zr hy
    | ro => exact compat_ok (N := N) (a := .ra) (b := .ro) rfl hx hy
    | ra => exact compat_ok (N := N) (a := .ra) (b := .ra) rfl hx hy
    | _ => cases hc
  | nw k => cases b with
    | z => exact zr hy
    | ro => exact compat_ok (N := N) (a := .nw k) (b := .ro) rfl hx hy
    | nw j => exact compat_ok (N := N) (a := .nw k) (b := .nw j) hc hx hy
    | _ => cases hc
  | nc => cases b with
    | z => exact zr hy
    | ro => exact (ron hy hx).2
    | _ => cases hc
  | any => cases b with
    | z => exact zr hy
    | _ => cases hc
inductive KindsF (N : Nat) : List Tr → List Kf → Prop
  | nil : KindsF N [] []
  | cons {t : Tr} {k : Kf} {T : List Tr} {K : List Kf} : KfOf N t k → KindsF N T K → KindsF N (t :: T) (k :: K)
def okKF : List Nat → List Kf → Nat → List (Nat × Kf) → Bool
  | _, [], _, _ => true
  | [], _ :: _, _, _ => false
  | a :: as, k :: ks, i, pre => (pre.all fun p => bit a p.1 || compatF p.2 k) && okKF as ks (i + 1) ((i, k) :: pre)
theorem okPairs_kF' {N : Nat} {T : List Tr} {K : List Kf} (h : KindsF N T K) : ∀ (as : List Nat) (i : Nat) (pre : List (Nat × Tr)) (preK : List (Nat × Kf)), okKF as K i preK = true →
    (∀ p ∈ pre, ∃ k, (p.1, k) ∈ preK ∧ KfOf N p.2 k) → okPairs as T i pre = true := by
  induction h with
  | nil => intro as i pre preK _ _; simp [okPairs]
  | @cons t k T K ht _ ih =>
    intro as i pre preK hk hp
    cases as with
    | nil => cases hk
    | cons a as =>
      simp only [okKF, Bool.and_eq_true] at hk
      simp only [okPairs, fNat_eq]
      have hp' : ∀ p ∈ pre, ∃ k', (p.1, k') ∈ (i, k) :: preK ∧ KfOf N p.2 k' := fun p h => by
        obtain ⟨k', h1, h2⟩ := hp p h
        exact ⟨k', List.mem_cons_of_mem _ h1, h2⟩
      split
      · exact ih _ _ _ _ hk.2 hp'
      · have : (pre.all fun p => bit a p.1 || !clash p.2 t) = true := List.all_eq_true.2 fun p hpm => by
          obtain ⟨k', h1, h2⟩ := hp p hpm
          have := List.all_eq_true.1 hk.1 _ h1
          simp only [Bool.or_eq_true] at this ⊢
          rcases this with h | h
          · exact .inl h
          · exact .inr (by rw [compatF_ok h h2 ht]; rfl)
        rw [this]
        refine ih _ _ _ _ hk.2 fun p hpm => ?_
        rcases List.mem_cons.1 hpm with rfl | hpm
        · exact ⟨k, List.mem_cons_self, ht⟩
        · exact hp' p hpm
theorem KindsF.z {N : Nat} {T : List Tr} {K : List Kf} (ht : KindsF N T K) : KindsF N (⟨0, 0, 0⟩ :: T) (.z :: K) := .cons rfl ht
theorem KindsF.ro {N : Nat} {T : List Tr} {K : List Kf} {r : Nat} (h : r < 2 ^ N) (ht : KindsF N T K) : KindsF N (⟨r, 0, 0⟩ :: T) (.ro :: K) := .cons ⟨rfl, rfl, h⟩ ht
theorem KindsF.rd {N : Nat} {T : List Tr} {K : List Kf} {x : AV} (h : (rdTr x).rd < 2 ^ N) (ht : KindsF N T K) : KindsF N (rdTr x :: T) (.ro :: K) := .cons (rdTr_ro h) ht
theorem KindsF.ra {N : Nat} {T : List Tr} {K : List Kf} {t : Tr} (h : RoT t) (ht : KindsF N T K) : KindsF N (t :: T) (.ra :: K) := .cons h ht
theorem KindsF.nc {N M : Nat} {T : List Tr} {K : List Kf} {t : Tr} (h : NcT M t) (hl : N ≤ M) (ht : KindsF N T K) : KindsF N (t :: T) (.nc :: K) := .cons (h.le hl) ht
theorem KindsF.nw {N : Nat} {T : List Tr} {K : List Kf} {r n : Nat} (k : Nat) (hn : n = N + k) (h : r < 2 ^ N) (ht : KindsF N T K) : KindsF N (⟨r, 2 ^ n, 0⟩ :: T) (.nw k :: K) := .cons ⟨by rw [hn], rfl, h⟩ ht
theorem KindsF.any {N : Nat} {T : List Tr} {K : List Kf} {t : Tr} (ht : KindsF N T K) : KindsF N (t :: T) (.any :: K) := .cons trivial ht
theorem zgk {N : Nat} {T : List Tr} {K : List Kf} (h : KindsF N T K := by (first | ((repeat (first | exact KindsF.nil | apply KindsF.z | (apply KindsF.ro; (focus (exact zR))) | (apply KindsF.rd; (focus (exact zR))) | (apply KindsF.nw 0; (focus (exact zO)); (focus (exact zR))) | (apply KindsF.nw 1; (focus (exact zO)); (focus (exact zR))) | (apply KindsF.nw 2; (focus (exact zO)); (focus (exact zR))) | (apply KindsF.nc; (focus assumption); (focus (exact zO))) | (apply KindsF.ra; (focus (first | exact RoT.zero | exact RoT.rd | exact RoT.all | exact RoT.rdTr _ | assumption))) | apply KindsF.any)); done) | fail)) : KindsF N T K := h
theorem zgc {N : Nat} {l : List Oper} {Q : AX → St → Prop} {s : St} {T T' : List Tr} {K : List Kf} (q : Q .normal s) (hT : T = T' := by ((simp only [List.reverse_cons, List.reverse_nil, List.nil_append, List.cons_append]); rfl)) (hk : KindsF N T' K := by exact zgk) (ho : okKF (aheads l [] 0) K 0 [] = true := by decide +kernel) : DrawK l N Q s T := ⟨by rw [hT]; exact okPairs_kF' hk (aheads l [] 0) 0 [] [] ho (fun p hp => by cases hp), q⟩
class Zs (P : Prop) (Q : outParam Prop) : Prop where
  z : Q → P
theorem zz {P Q : Prop} [s : Zs P Q] (h : Q) : P := s.z h
section
variable {E : Env} {rd : Bool} {ys : List (Nat × LRec)} {lo : Nat} {s s1 : St} {Q : AX → St → Prop} {a b : Code} {i n m : Nat}
instance : Zs (V E rd ys lo (.seq a b) s Q) (V E rd ys lo a s (SeqQ E rd ys lo b Q)) := ⟨V.sq⟩
instance : Zs (V E rd ys lo (.block i a) s Q) (V E rd ys lo a s (BlockQ i Q)) := ⟨V.bl⟩
instance : Zs (V E rd ys lo (.scope a) s Q) (V E rd ys lo a s Q) := ⟨V.sc⟩
instance : Zs (V E rd ys lo .skip s Q) (Q .normal s) := ⟨V.skip⟩
instance : Zs (V E rd ys lo (.label n) s Q) (Q .normal s) := ⟨V.label⟩
instance : Zs (V E rd ys lo .ret s Q) (Q .ret s) := ⟨V.ret⟩
instance : Zs (V E rd ys lo (.exit i) s Q) (Q (.exit i) s) := ⟨V.exit⟩
instance : Zs (SeqQ E rd ys lo b Q .normal s) (V E rd ys lo b s Q) := ⟨SeqQ.normal⟩
instance : Zs (SeqQ E rd ys lo b Q .ret s) (Q .ret s) := ⟨SeqQ.ret⟩
instance : Zs (SeqQ E rd ys lo b Q (.exit i) s) (Q (.exit i) s) := ⟨SeqQ.exit⟩
instance : Zs (BlockQ i Q .normal s) (Q .normal s) := ⟨BlockQ.normal⟩
instance : Zs (BlockQ i Q .ret s) (Q .ret s) := ⟨BlockQ.ret⟩
instance : Zs (BlockQ i Q (.exit i) s) (Q .normal s) := ⟨BlockQ.here⟩
instance {W : List Nat} {cf : List AV → List (List AV)} {P : Nat → List AV → AHeap → Prop} : Zs (LoopS n W cf P m Q .ret s) (Q .ret s) := ⟨LoopS.ret⟩
instance {W : List Nat} {cf : List AV → List (List AV)} {P : Nat → List AV → AHeap → Prop} : Zs (LoopS n W cf P m Q (.exit i) s) (Q (.exit i) s) := ⟨LoopS.exit⟩
instance {W : List Nat} {cf : List AV → List (List AV)} {H : AHeap} {P : Nat → List AV → Prop} : Zs (LoopF n W cf H P m Q .ret s) (Q .ret s) := ⟨LoopF.ret⟩
instance {W : List Nat} {cf : List AV → List (List AV)} {H : AHeap} {P : Nat → List AV → Prop} : Zs (LoopF n W cf H P m Q (.exit i) s) (Q (.exit i) s) := ⟨LoopF.exit⟩
end
section
variable {E : Env} {ys : List (Nat × LRec)} {lo : Nat} {s : St} {ops rest : List Oper} {o : Oper} {acc : List Tr} {K : St → List Tr → Prop}
instance : Zs (RK E ys lo ops [] s acc K) (K s acc.reverse) := ⟨RK.nil⟩
instance : Zs (RKg E ys lo ops o rest s acc K (.v (.bool true)) true) (RKy E ys lo ops o rest s acc K) := ⟨RKg.tt⟩
instance : Zs (RKg E ys lo ops o rest s acc K (.v (.bool false)) false) (RKy E ys lo ops o rest s acc K) := ⟨RKg.ff⟩
end
theorem zQ {P : Prop} (h : P := by (first | omega | exact zX | exact zO | fail)) : P := h
attribute [go_sem_proc] Nat.reduceDiv Nat.reduceMod Nat.reduceAdd Nat.reduceSub Nat.reduceEqDiff Nat.reduceLeDiff Nat.reduceLT Nat.reduceMul reduceIte Nat.reducePow Int.reduceEq
end Go.Am
