/- Parts of the proof: AmX AmV AmY AmD. -/
import Derived.Test.YtpaakagaiogknaaGreatAmU
import Derived.Attr
set_option linter.all false
set_option linter.deprecated false

namespace Go.Am
attribute [go_sem] aev_tmp aev_int aev_bool aev_str aev_nilS aev_nilP aev_nilF aev_func nth_zero nth_succ get_push get_set get_empty next_push next_set next_empty set_push set_set primL_val primL_opt primL_prim0 primL_prim1 primL_prim2 effL_none effL_set0 effL_set0' effL_new primL_live plan_move plan_assign plan_pick pickA_v plan_alloc plan_box plan_build plan_buildSlice newB_f newB_2 fillA_cons fillA_nil fillE_cons fillE_nil setCells slSz storeA_op index_os plan_load loadA_fp loadA_op plan_store plan_nilCheck plan_binOp plan_unOp plan_convert conv_int conv_osM numsOf_nil numsOf_cons plan_slice len_os len_str sliceElems builtin_append plan_fieldAddr plan_field fieldA plan_indexAddr plan_index plan_extract plan_builtin plan_call callA_fn bin_lss bin_leq bin_gtr bin_geq bin_eql bin_neq bin_add bin_sub bin_mul bin_quo bin_rem bin_seql bin_sneq bin_pop bin_pope bin_pfp bin_pfpe eqPlan_opM eqPlan_fpM bin_pnilM bin_beqM bin_bneM bin_eqPlan bin_nePlan eqCell_i eqCell_b eqCells_cons eqCells_nil un_not un_neg min_int max_int cells_v cells_os cells_op cells_sl cells_fp cells_agg cells_e0 cells_fn gv_true gv_false pick_and pick_or
attribute [go_sem] Nat.succ_ne_self Int.toNat_natCast Int.natCast_nonneg List.cons_append List.nil_append List.replicate_succ List.replicate_zero List.set_cons_zero List.set_cons_succ Option.isSome_some List.toList_toArray List.append_nil ne_eq not_false_eq_true Option.bind_some Option.map_some Option.map_none List.length_cons List.length_nil List.drop_succ_cons List.drop_zero List.take_succ_cons List.take_zero List.head?_cons List.map_cons List.map_nil List.getElem?_cons_succ List.getElem?_cons_zero Option.isNone_none Bool.true_and Bool.and_true Bool.not_true Bool.not_false cond_true cond_false true_and and_true if_true Nat.lt_add_one Nat.zero_le Nat.zero_add Nat.add_zero Nat.le_refl
end Go.Am

namespace Go.Am
section
variable {E : Env} {ys : List (Nat × LRec)} {lo : Nat} {s : St} {ops rest : List Oper} {o : Oper} {acc : List Tr} {K : St → List Tr → Prop} {tm1 : Slots} {x : AV} {H' : AHeap} {tr : Tr}
variable {rd : Bool} {Q : AX → St → Prop} {l : List Oper}
/-- A value that is picked: its condition known. -/
theorem pick_t (a b : AV) : (bif true then a else b) = a := rfl
theorem pick_f (a b : AV) : (bif false then a else b) = b := rfl
end
end Go.Am
namespace Go.Am
theorem wrap_i64 (x : Int) (h1 : -9223372036854775808 ≤ x) (h2 : x ≤ 9223372036854775807) : IntKind.i64.wrap x = x := IntWalk.i64_in x ⟨h1, h2⟩
theorem wrap_i32 (x : Int) (h1 : -2147483648 ≤ x) (h2 : x ≤ 2147483647) : IntKind.i32.wrap x = x := IntWalk.i32_in x ⟨h1, h2⟩
theorem if_pos' {c : Prop} [Decidable c] {α : Type} {a b : α} (h : c) : (if c then a else b) = a := if_pos h
theorem if_neg' {c : Prop} [Decidable c] {α : Type} {a b : α} (h : ¬ c) : (if c then a else b) = b := if_neg h
/-- A field's address, by the field's place. -/
theorem fieldAddrA_op (E : Env) (lo : Nat) (H : AHeap) (s f n e i j : Nat) : primL lo H (fieldAddrA E s f (.op n e i j)) = (fieldOff E.P s f).bind fun off => (H.get n).bind fun b => if b.ep = e then some (.op n e i (j + off), H, ⟨bitsOf [n], 0, 0⟩) else none := by
  simp only [fieldAddrA]
  cases fieldOff E.P s f with
  | none => rfl
  | some off => rw [primL_live]; rfl
theorem fieldAddrA_fp (E : Env) (lo : Nat) (H : AHeap) (s f : Nat) (cs : List AV) : primL lo H (fieldAddrA E s f (.fp cs)) = (fieldOff E.P s f).bind fun off => some (.fp (cs.drop off), H, ⟨0, 0, 0⟩) := by
  simp only [fieldAddrA]
  cases fieldOff E.P s f <;> rfl
/-! A slice's elements, by numbers. -/
end Go.Am
namespace Go.Am
/-- A call that reads alone. -/
def CallRo (E : Env) (ys : List (Nat × LRec)) (lo : Nat) (f : FuncId) (args : List AV) (H : AHeap) (x : AV) : Prop := ∃ tr, RoT tr ∧ CallR E ys lo f args H x H tr
/-- A call that reads alone, of whose result P holds. -/
def CallRoE (E : Env) (ys : List (Nat × LRec)) (lo : Nat) (f : FuncId) (args : List AV) (H : AHeap) (P : AV → Prop) : Prop := ∃ x tr, RoT tr ∧ CallR E ys lo f args H x H tr ∧ P x
section
variable {E : Env} {ys : List (Nat × LRec)} {lo : Nat} {s : St} {ops rest : List Oper} {o : Oper} {acc : List Tr} {K : St → List Tr → Prop} {tm1 : Slots} {x : AV} {H' : AHeap} {tr : Tr} {f : FuncId} {args : List AV}
/-- A pure call whose body runs on any heap: the result x, frozen, is what K says. -/
theorem WC.pureE {H : AHeap} {K : AV → Prop} (hpol : E.pol f = .pure)
    (hc : ∀ lo' H', (lo' = H.next ∧ H' = H) ∨ (lo' = 0 ∧ H' = .empty ∧ args.all nf = true) → WC E [] lo' f args H' fun r H'' => K (frzR H'' lo' r)) : CallRoE E ys lo f args H K := by
  cases hn : args.all nf with
  | true =>
    obtain ⟨x, h1, h2⟩ := WC.pure (K := K) hpol hn (hc 0 .empty (.inr ⟨rfl, rfl, hn⟩))
    exact ⟨x, _, RoT.zero, h2 ys lo H, h1⟩
  | false =>
    obtain ⟨x, h1, h2⟩ := WC.pureH (K := K) hpol hn (hc H.next H (.inl ⟨rfl, rfl⟩))
    exact ⟨x, _, RoT.all, h2, h1⟩
theorem WC.pureR {H : AHeap} (hpol : E.pol f = .pure)
    (hc : ∀ lo' H', (lo' = H.next ∧ H' = H) ∨ (lo' = 0 ∧ H' = .empty ∧ args.all nf = true) → WC E [] lo' f args H' fun r H'' => frzR H'' lo' r = x) : CallRo E ys lo f args H x := by
  obtain ⟨y, tr, h1, h2, rfl⟩ := WC.pureE (K := fun y => y = x) (ys := ys) (lo := lo) hpol hc
  exact ⟨tr, h1, h2⟩
end
end Go.Am
namespace Go.Am
section
variable {E : Env} {ys : List (Nat × LRec)} {lo : Nat} {H : AHeap} {f : FuncId} {args : List AV}
end
/-- The two heaps on which a call's body may run: an argument's elements are there on both. -/
theorem SlH.two {H H' : AHeap} {lo' sz : Nat} {x : AV} {es : List (List AV)} {args : List AV} (h : SlH H sz x es) (hm : nf x = true ∨ ∃ cs, AV.agg cs ∈ args ∧ x ∈ cs ∨ x ∈ args) (hh : (lo' = H.next ∧ H' = H) ∨ (lo' = 0 ∧ H' = .empty ∧ args.all nf = true)) : SlH H' sz x es := by
  rcases hh with ⟨_, rfl⟩ | ⟨_, rfl, hn⟩
  · exact h
  · refine nf_SlH_empty h ?_
    rcases hm with hm | ⟨cs, ⟨h1, h2⟩ | h1⟩
    · exact hm
    · have := List.all_eq_true.1 (List.all_eq_true.1 hn _ h1) x h2
      rcases h with (rfl | ⟨_, rfl | rfl⟩) | ⟨n, e, off, b, rfl, _⟩ <;> first | rfl | cases this
    · exact List.all_eq_true.1 hn x h1
theorem lo_two {H H' : AHeap} {lo' : Nat} {args : List AV} (hh : (lo' = H.next ∧ H' = H) ∨ (lo' = 0 ∧ H' = .empty ∧ args.all nf = true)) : lo' = H'.next := by
  rcases hh with ⟨rfl, rfl⟩ | ⟨rfl, rfl, _⟩ <;> rfl
end Go.Am

/-! Traces by kinds: what reads old names alone; what reads anything; what makes a new block; anything. -/
namespace Go.Am
end Go.Am
/-! A heap that goes on from another: what was there is there still. -/
namespace Go.Am
structure Ext (H0 H : AHeap) : Prop where
  next : H0.next ≤ H.next
  get : ∀ k, k < H0.next → H.get k = H0.get k
theorem Ext.refl (H : AHeap) : Ext H H := ⟨Nat.le_refl _, fun _ _ => rfl⟩
theorem Ext.push {H0 H : AHeap} (h : Ext H0 H) (b : Blk) : Ext H0 (H.push b) := ⟨by rw [next_push]; have := h.next; omega, fun k hk => by rw [get_push, if_neg (by have := h.next; omega)]; exact h.get k hk⟩
theorem Ext.set {H0 H : AHeap} (h : Ext H0 H) {m : Nat} (hm : H0.next ≤ m) (b : Blk) : Ext H0 (H.set m b) := ⟨by rw [next_set]; exact h.next, fun k hk => by rw [get_set, if_neg (by omega)]; exact h.get k hk⟩
theorem Ext.trans {A B C : AHeap} (h : Ext A B) (k : Ext B C) : Ext A C := ⟨Nat.le_trans h.next k.next, fun n hn => by rw [k.get n (Nat.lt_of_lt_of_le hn h.next), h.get n hn]⟩
theorem SlH.ext {H0 H : AHeap} {sz : Nat} {x : AV} {es : List (List AV)} (h : SlH H0 sz x es) (k : Ext H0 H) : SlH H sz x es := by
  rcases h with h | ⟨n, e, off, b, rfl, hl, hb, he, hi, hs, ho, ht⟩
  · exact .inl h
  · exact .inr ⟨n, e, off, b, rfl, Nat.lt_of_lt_of_le hl k.next, by rw [k.get n hl]; exact hb, he, hi, hs, ho, ht⟩
end Go.Am
namespace Go.Am
/-! Rules whose side lies in the table of types, told by a condition. -/
def primL0 : Nat → AHeap → Plan → Option (AV × AHeap × Tr) := primL
def builtinA0 : Env → Builtin → Array TypeId → TypeId → List AV → Plan := builtinA
theorem index_osM (E : Env) (lo : Nat) (H : AHeap) (t : TypeId) (n e off len : Nat) (κ : IntKind) (i : Int) : primL lo H (indexAddrA E t (.os n e off len) (.v (.int κ i))) = bif (slSz E.P t).isSome then (H.get n).bind fun b => if b.ep = e ∧ b.it.isNone = true ∧ off + len ≤ b.es.length ∧ some b.sz = slSz E.P t ∧ 0 ≤ i ∧ i < len then some (.op n e (off + i.toNat) 0, H, ⟨bitsOf [n], 0, 0⟩) else none else primL0 lo H (indexAddrA E t (.os n e off len) (.v (.int κ i))) := by
  cases h : (slSz E.P t).isSome with
  | true => rw [index_os E lo H t n e off len κ i h]; rfl
  | false => rfl
theorem len_osM (E : Env) (lo : Nat) (H : AHeap) (t ty : TypeId) (n e off len : Nat) : primL lo H (builtinA E .len #[t] ty [.os n e off len]) = bif isSlT E.P t then (H.get n).bind fun b => (sliceElems b e off len).bind fun es => some (.v (.int .i64 es.length), H, ⟨bitsOf [n], 0, 0⟩) else primL0 lo H (builtinA E .len #[t] ty [.os n e off len]) := by
  cases h : isSlT E.P t with
  | true => rw [len_os E lo H t ty n e off len h]; rfl
  | false => rfl
theorem len_strM (E : Env) (t ty : TypeId) (s : ByteArray) : builtinA E .len #[t] ty [.v (.string s)] = bif isStrT E.P t then .val (.v (.int .i64 s.size)) else builtinA0 E .len #[t] ty [.v (.string s)] := by
  cases h : isStrT E.P t with
  | true => rw [len_str E t ty s h]; rfl
  | false => rfl
theorem len_e0M (E : Env) (t ty : TypeId) : builtinA E .len #[t] ty [.e0] = bif isSlT E.P t then .val (.v (.int .i64 0)) else builtinA0 E .len #[t] ty [.e0] := by
  cases h : isSlT E.P t with
  | true => rw [len_e0 E t ty h]; rfl
  | false => rfl
theorem len_nilM (E : Env) (t ty : TypeId) : builtinA E .len #[t] ty [.v (.slice none 0 0)] = bif isSlT E.P t then .val (.v (.int .i64 0)) else builtinA0 E .len #[t] ty [.v (.slice none 0 0)] := by
  cases h : isSlT E.P t with
  | true => rw [len_nil E t ty h]; rfl
  | false => rfl
theorem len_slM (E : Env) (t ty : TypeId) (sz : Nat) (es : List (List AV)) : builtinA E .len #[t] ty [.sl sz es] = bif isSlT E.P t then .val (.v (.int .i64 es.length)) else builtinA0 E .len #[t] ty [.sl sz es] := by
  cases h : isSlT E.P t with
  | true => rw [len_sl E t ty sz es h]; rfl
  | false => rfl
end Go.Am

/-! What simp need not look into. -/
namespace Go.Am
def nthS {α : Type} (d : α) : List α → Nat → α
  | [], _ => d
  | a :: _, 0 => a
  | _ :: l, n + 1 => nthS d l n
theorem nthS_eq {α : Type} (d : α) (l : List α) (n : Nat) : nthS d l n = nth d l n := by
  induction l generalizing n with
  | nil => rfl
  | cons a l ih => cases n with
    | zero => rfl
    | succ n => exact ih n
theorem get_nthS (n : Nat) (c : List (List AV)) (t : Nat) : Slots.get ⟨n, c⟩ t = nthS (.tup []) (nthS [] c (t / 8)) (t % 8) := by rw [get_nth, nthS_eq, nthS_eq]
theorem nthS_zero {α : Type} (d a : α) (l : List α) : nthS d (a :: l) 0 = a := rfl
theorem nthS_succ {α : Type} (d a : α) (l : List α) (n : Nat) : nthS d (a :: l) (n + 1) = nthS d l n := rfl
@[congr] theorem aev_c (tm : Slots) {x y : Operand} (h : x = y) : aev tm x = aev tm y := by rw [h]
@[congr] theorem get_c (s : Slots) (t : Nat) : Slots.get s t = Slots.get s t := rfl
@[congr] theorem nthS_c {α : Type} (d : α) (l : List α) {n m : Nat} (h : n = m) : nthS d l n = nthS d l m := by rw [h]
@[congr] theorem plan_c (E : Env) (o : Oper) (ρ : Operand → AV) : plan E o ρ = plan E o ρ := rfl
@[congr] theorem primL_c (lo : Nat) (H : AHeap) {p q : Plan} (h : p = q) : primL lo H p = primL lo H q := by rw [h]
@[congr] theorem hget_c (H : AHeap) {n m : Nat} (h : n = m) : AHeap.get H n = AHeap.get H m := by rw [h]
end Go.Am
/-! Slices that grow by one. -/
namespace Go.Am
end Go.Am

/-! By the plan of an operation. -/
namespace Go.Am
section
variable {E : Env} {ys : List (Nat × LRec)} {lo : Nat} {ops rest : List Oper} {o : Oper} {acc : List Tr} {K : St → List Tr → Prop} {tm tm1 : Slots} {H H' : AHeap} {x : AV} {tr : Tr} {f : FuncId} {args : List AV} {p : Plan}
end
theorem un_notP (P : Program) (b : Bool) : plainV (det P (Op.unary .not (.bool b))) = some (.v (.bool (!b))) := rfl
theorem un_negP (P : Program) (k : IntKind) (n : Int) : plainV (det P (Op.unary .neg (.int k n))) = some (.v (.int k (k.wrap (0 - n)))) := rfl
attribute [go_sem] un_notP un_negP get_nthS nthS_zero nthS_succ wrap_i64 wrap_i32 if_pos' if_neg' fieldAddrA_op fieldAddrA_fp pick_t pick_f index_osM len_osM len_strM len_e0M len_nilM len_slM List.toList_toArray
end Go.Am

namespace Go.Am
set_option linter.all false
theorem zO {P : Prop} (h : P := by (first | omega | (simp only [next_push, next_set, next_empty]; done) | (simp only [next_push, next_set, next_empty]; omega))) : P := h
/-- Side conditions. -/
theorem zX {P : Prop} (h : P := by (first | ((repeat (first | exact Ext.refl _ | assumption | apply Ext.push | (refine Ext.set ?_ (by exact zO) _))); done) | fail)) : P := h
theorem zD {P : Prop} (h : P := by (first | assumption | rfl | omega | (refine ⟨?_, ?_⟩ <;> omega) | exact zX)) : P := h
theorem zL {P : Prop} (h : P := by (first | rfl | (apply ite_ok; (first | assumption | rfl | omega | (refine ⟨?_, ?_⟩ <;> omega)); rfl))) : P := h
/-- A condition, plainly. -/
theorem zB {c b : Bool} {P : Prop} (h : c = b) (e : (c = b) = P := by ((try simp only [decide_eq_true_eq, decide_eq_false_iff_not, Bool.and_eq_true, Bool.or_eq_true, Bool.and_eq_false_iff, Bool.or_eq_false_iff, Bool.not_eq_true', Bool.not_eq_false', Bool.not_true, Bool.not_false, Classical.not_not, Int.not_lt, Int.not_le, reduceCtorEq, not_true_eq_false, not_false_eq_true, decide_true, decide_false, Int.reduceEq, Int.reduceLT, Int.reduceLE]); rfl)) : P := e ▸ h
section
variable {E : Env} {ys : List (Nat × LRec)} {lo : Nat} {s : St} {ops rest : List Oper} {o : Oper} {acc : List Tr} {K : St → List Tr → Prop} {tm tm1 : Slots} {H H' : AHeap} {x y : AV} {tr : Tr} {f : FuncId} {args : List AV} {p : Plan} {want : Bool}
variable {rd : Bool} {Q : AX → St → Prop} {l : List Oper}
theorem zvf {c : Operand} {a b : Code} {t : Bool} (ht : t = true → V E rd ys lo a s Q) (hf : t = false → V E rd ys lo b s Q) (hc : aev s.tm c = .v (.bool t) := by rfl) : V E rd ys lo (.cond c a b) s Q := V.cond hc ht hf
theorem zbt {id id' : Nat} (h : Q (.exit id') s) (hn : id' ≠ id := by decide) : BlockQ id Q (.exit id') s := BlockQ.there hn h
theorem zfc {fn : Func} {K : AV → AHeap → Prop} {t : Tmp} {r : AV} (hr : fn.results = #[.tmp t]) (h : K r s.H) (e : s.tm.get t = r := by ((simp only [Nat.reduceDiv, Nat.reduceMod, get_nthS, nthS_zero, nthS_succ]); rfl)) : FnQ E fn K .ret s := FnQ.ret (res1 hr) e h
end
/-- A function entered: its slots. -/
theorem zvin {E : Env} {ys : List (Nat × LRec)} {lo : Nat} {f : FuncId} {fn : Func} {body : Code} {args : List AV} {H : AHeap} {K : AV → AHeap → Prop} {tm : Slots} {n : Nat} (hf : E.P.funcs[f]? = some fn) (hn : fn.ntmps = n) (h : V E false ys lo body ⟨tm, H⟩ (FnQ E fn K)) (hb : fn.body = some body := by rfl) (hl : args.length ≤ fn.ntmps := by exact Nat.le_of_ble_eq_true rfl) (ht : Slots.of n args = tm := by ((simp only [Slots.of, Nat.reduceAdd, Nat.reduceDiv, rows8P, row8]); rfl)) : WC E ys lo f args H K := WC.enter hf hb hl (by rw [hn]; exact ht) h
end Go.Am

/-! The same for walks whose guards stand in values. -/
namespace Go.Am
theorem zW {o : Oper} {ops : List Oper} {tm : Slots} {b : Bool} (h : wantedA o ops tm = some b := by (first | (apply wantT; rfl; rfl; (simp only [Nat.reduceDiv, Nat.reduceMod, get_nth, nth_zero, nth_succ]; rfl)) | (apply wantF; rfl; rfl; (simp only [Nat.reduceDiv, Nat.reduceMod, get_nth, nth_zero, nth_succ]; rfl)) | (apply wantTg; rfl; rfl; (simp only [Nat.reduceDiv, Nat.reduceMod, get_nth, nth_zero, nth_succ]; rfl)) | (apply wantFg; rfl; rfl; (simp only [Nat.reduceDiv, Nat.reduceMod, get_nth, nth_zero, nth_succ]; rfl)) | (apply wantU; rfl; rfl; (simp only [Nat.reduceDiv, Nat.reduceMod, get_nth, nth_zero, nth_succ]; rfl)))) : wantedA o ops tm = some b := h
section
variable {E : Env} {ys : List (Nat × LRec)} {lo : Nat} {s s1 : St} {ops : List Oper} {T : List Tr} {tm tm1 : Slots} {H H' : AHeap} {x y : AV} {rd : Bool} {Q : AX → St → Prop} {l : List Oper}
theorem zE {as : List Nat} (h : okPairs as T 0 [] = true := by (first | (apply okPairs_kinds; (focus ((repeat (first | exact Kinds.nil | (apply Kinds.ro; (first | exact RoT.zero | exact RoT.rd | exact RoT.all | exact RoT.rdTr _ | assumption)) | apply Kinds.any)); done)); decide +kernel) | kernel_rfl)) : okPairs as T 0 [] = true := h
theorem zK {l : List Oper} (h : (okBack l 0 && okPairs (aheads l [] 0) (slotTrs l l) 0 []) = true := by kernel_rfl) : (okBack l 0 && okPairs (aheads l [] 0) (slotTrs l l) 0 []) = true := h
end
end Go.Am

namespace Go.Am
set_option linter.all false
/-- A trace that reads, and writes new names alone. -/
def NcT (N : Nat) (t : Tr) : Prop := t.rd = 0 ∧ (∀ r, r < 2 ^ N → Nat.land t.wr r = 0) ∧ (t.all = 0 ∨ t.all = 1)
theorem NcT.le {N M : Nat} {t : Tr} (h : NcT M t) (hl : N ≤ M) : NcT N t := ⟨h.1, fun r hr => h.2.1 r (Nat.lt_of_lt_of_le hr (Nat.pow_le_pow_right (by omega) hl)), h.2.2⟩
theorem land_new {N k r : Nat} (h : r < 2 ^ N) : Nat.land (newBits N k) r = 0 := by
  apply Nat.eq_of_testBit_eq
  intro i
  show (2 ^ N * (2 ^ k - 1) &&& r).testBit i = _
  rw [Nat.testBit_and, Nat.zero_testBit, Nat.testBit_two_pow_mul]
  by_cases hi : N ≤ i
  · rw [Nat.testBit_lt_two_pow (Nat.lt_of_lt_of_le h (Nat.pow_le_pow_right (by omega) hi))]; simp
  · simp [hi]
theorem NcT.new (N k a : Nat) (h : a = 0 ∨ a = 1) : NcT N ⟨0, newBits N k, a⟩ := ⟨rfl, fun r hr => land_new hr, h⟩
/-- A call that hands new blocks over. -/
def CallN (E : Env) (ys : List (Nat × LRec)) (lo : Nat) (f : FuncId) (args : List AV) (H : AHeap) (x : AV) (H' : AHeap) : Prop := ∃ tr, NcT H.next tr ∧ CallR E ys lo f args H x H' tr
section
variable {E : Env} {ys : List (Nat × LRec)} {lo : Nat} {f : FuncId} {args : List AV} {H H' : AHeap} {ops rest : List Oper} {o : Oper} {acc : List Tr} {K : St → List Tr → Prop} {tm tm1 : Slots} {x : AV}
theorem WC.ownN {x : Nat → AV} {bs : Nat → List Blk} (hpol : E.pol f = .own)
    (hc : ∀ lo' H', (lo' = H.next ∧ H' = H) ∨ (lo' = 0 ∧ H' = .empty ∧ args.all nf = true) → WC E [] lo' f args H' fun r H'' => Hands H'' lo' r x bs) : CallN E ys lo f args H (x H.next) (pushAll H (bs H.next)) := by
  cases hn : args.all nf with
  | true =>
    obtain ⟨n, r, H'', h1, h2⟩ := hc 0 .empty (.inr ⟨rfl, rfl, hn⟩)
    obtain ⟨x', bs', ⟨rfl, rfl⟩, h4⟩ := WC.own (K := fun x' bs' => x' = x ∧ bs' = bs) hpol hn ⟨n, r, H'', h1, x, bs, h2, rfl, rfl⟩
    exact ⟨_, NcT.new _ _ _ (.inl rfl), h4 ys lo H⟩
  | false =>
    obtain ⟨n, r, H'', h1, h2⟩ := hc H.next H (.inl ⟨rfl, rfl⟩)
    obtain ⟨x', bs', ⟨rfl, rfl⟩, h4⟩ := WC.ownH (K := fun x' bs' => x' = x ∧ bs' = bs) (ys := ys) (lo := lo) hpol hn ⟨n, r, H'', h1, x, bs, h2, rfl, rfl⟩
    exact ⟨_, NcT.new _ _ _ (.inr rfl), h4⟩
end
section
variable {E : Env} {ys : List (Nat × LRec)} {lo : Nat} {f : FuncId} {args : List AV} {H H' : AHeap} {x : AV}
end
end Go.Am
