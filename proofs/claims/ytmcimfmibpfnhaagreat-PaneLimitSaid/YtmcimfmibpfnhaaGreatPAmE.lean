
/- The seat's environment; words of the Go types. -/
import Derived.Test.YtmcimfmibpfnhaaGreatAmTabP
import Derived.Test.YtmcimfmibpfnhaaGreatAmD
import Derived.Test.YtmcimfmibpfnhaaGreatAmD
import Derived.Test.YtmcimfmibpfnhaaGreatAmP
set_option linter.all false
set_option linter.deprecated false
namespace Go.Am
variable {oc : Orc} [OrcI oc]
open Go.Proofs
set_option maxRecDepth 8000
set_option maxHeartbeats 1000000
@[go_sem] theorem EZ_P : (ELo oc).P = Tryz.prog := rfl

/-! Plain words. -/
def ints (l : List Int) : List (List AV) := l.map fun i => [.v (.int .i64 i)]
theorem ints_len (l : List Int) : (ints l).length = l.length := by simp [ints]
theorem nth_map {α : Type} (f : α → List AV) (l : List α) (i : Nat) (d : α) (h : i < l.length) : nth [] (l.map f) i = f (l.getD i d) := by
  rw [nth_getD, List.getD_eq_getElem?_getD, List.getElem?_map, List.getElem?_eq_getElem h, List.getD_eq_getElem?_getD, List.getElem?_eq_getElem h]; rfl
theorem nth_ints (l : List Int) (i : Nat) (h : i < l.length) : nth [] (ints l) i = [.v (.int .i64 (l.getD i 0))] := nth_map _ l i 0 h
theorem ints_append (l l' : List Int) : ints (l ++ l') = ints l ++ ints l' := by simp [ints]
theorem take_ints (l : List Int) : (ints l).take l.length = ints l := by rw [List.take_of_length_le]; rw [ints_len]; exact Nat.le_refl _
theorem set_ints (l : List Int) (i : Nat) (v : Int) : (ints l).set i [.v (.int .i64 v)] = ints (l.set i v) := by simp [ints, List.map_set]
def runes (l : List Int) : List (List AV) := l.map fun i => [.v (.int .i32 i)]
theorem runes_len (l : List Int) : (runes l).length = l.length := by simp [runes]
theorem nth_runes (l : List Int) (i : Nat) (h : i < l.length) : nth [] (runes l) i = [.v (.int .i32 (l.getD i 0))] := nth_map _ l i 0 h
def bytesL (l : List Int) : List (List AV) := l.map fun i => [.v (.int .u8 i)]
theorem bytesL_len (l : List Int) : (bytesL l).length = l.length := by simp [bytesL]
theorem nth_bytesL (l : List Int) (i : Nat) (h : i < l.length) : nth [] (bytesL l) i = [.v (.int .u8 (l.getD i 0))] := nth_map _ l i 0 h
theorem bytesL_append (l l' : List Int) : bytesL (l ++ l') = bytesL l ++ bytesL l' := by simp [bytesL]
theorem numsOf_bytesL (l : List Int) : numsOf .u8 (bytesL l) = some l := by
  induction l with
  | nil => rfl
  | cons a l ih => show (if _ then _ else _) = _; rw [if_pos rfl]; show ((numsOf .u8 (bytesL l)).map _) = _; rw [ih]; rfl
theorem i64n (n : Nat) (h : n < 2 ^ 62) : IntKind.i64.wrap ((n : Int) + 1) = ((n + 1 : Nat) : Int) := by
  rw [IntWalk.i64_in _ (by omega)]; omega
theorem getD_ext {l l' : List Int} (h : l.length = l'.length) (he : ∀ j, j < l.length → l.getD j 0 = l'.getD j 0) : l = l' := by
  apply List.ext_getElem h
  intro i h1 h2
  have := he i h1
  simpa [List.getD_eq_getElem?_getD, List.getElem?_eq_getElem h1, List.getElem?_eq_getElem h2] using this
def nilA : AV := .v (.slice none 0 0)
/-! Bits. -/
def orI (k : IntKind) (a b : Int) : Int := k.wrap (BitVec.ofInt k.bits a ||| BitVec.ofInt k.bits b).toNat
def andI (k : IntKind) (a b : Int) : Int := k.wrap (BitVec.ofInt k.bits a &&& BitVec.ofInt k.bits b).toNat
def shrI (k : IntKind) (a b : Int) : Int := a.fdiv (2 ^ (min b.toNat k.bits))
theorem bin_or (E : Env) (t : TypeId) (xo yo : Operand) (k : IntKind) (a b : Int) : binOpA E .or t xo yo (.v (.int k a)) (.v (.int k b)) = .val (.v (.int k (orI k a b))) := by cases k <;> rfl
theorem bin_and (E : Env) (t : TypeId) (xo yo : Operand) (k : IntKind) (a b : Int) : binOpA E .and t xo yo (.v (.int k a)) (.v (.int k b)) = .val (.v (.int k (andI k a b))) := by cases k <;> rfl
theorem bin_shr (E : Env) (t : TypeId) (xo yo : Operand) (k k' : IntKind) (a b : Int) (hb : ¬ b < 0) : binOpA E .shr t xo yo (.v (.int k a)) (.v (.int k' b)) = .val (.v (.int k (shrI k a b))) := by
  have : det E.P (Op.shift .shr k a k' b) = some (.int k (shrI k a b)) := by simp only [Op.shift, if_neg hb]; rfl
  have h2 : det E.P (do eqGuard .shr t xo yo (.int k a) (.int k' b); binOp .shr t (.int k a) (.int k' b)) = det E.P (Op.shift .shr k a k' b) := rfl
  simp only [binOpA, h2, this]; rfl

/-! Bytes as a string. -/
theorem conv_bytes (E : Env) (lo : Nat) {H : AHeap} {x : AV} {l : List Int} {src dst e : TypeId} (hs : E.P.underlying src = some (.slice e)) (hd : isStrT E.P dst = true) (he : isU8T E.P e = true) (hx : SlH H 1 x (bytesL l)) : primL lo H (convA E src dst x) = some (.v (.string (strOfNums l)), H, rdTr x) := by
  have hq : (isStrT E.P dst && isU8T E.P e) = true := by rw [hd, he]; rfl
  have hf : (numsOf .u8 (bytesL l)).map (fun l => Eff.none (.v (.string (strOfNums l)))) = some (.none (.v (.string (strOfNums l)))) := by rw [numsOf_bytesL]; rfl
  rcases hx with (rfl | ⟨h0, rfl | rfl⟩) | ⟨n, e', off, c, rfl, _, hc, he', hi, hsz, ho, ht⟩
  · simp only [convA, hs, hq, if_true, srd, primL_prim0, hf]; rfl
  · have : l = [] := by simpa [bytesL] using h0
    subst this
    simp only [convA, hs, hq, if_true, srd, primL_prim0]; rfl
  · have : l = [] := by simpa [bytesL] using h0
    subst this
    have e1 : det E.P (convert src dst (.slice none 0 0)) = some (.string (strOfNums [])) := by
      unfold convert
      rw [det_underlying hs, det_underlying (isStrT_ok hd)]
      show det E.P (underlying e >>= _) = _
      rw [det_underlying (isU8T_ok he)]
      rfl
    simp only [convA, e1]; rfl
  · have hit : c.it.isNone = true := by rw [hi]; rfl
    simp only [convA, hs, hq, if_true, srd, primL_prim1, hc, Option.bind_some, sliceElems]
    rw [if_pos ⟨he', ho, hit⟩, Option.bind_some, ht, hf]; rfl

/-! Owned slices. -/

/-- x: nil, empty, or a block of its own whose name F holds. -/
def OwnS (H : AHeap) (F : Nat → Prop) (elem sz : Nat) (x : AV) (es : List (List AV)) : Prop :=
  (es = [] ∧ (x = .e0 ∨ x = nilA)) ∨ ∃ m e, x = .os m e 0 es.length ∧ F m ∧ m < H.next ∧ H.get m = some ⟨elem, sz, e, es, none⟩
theorem OwnS.slh {H : AHeap} {F : Nat → Prop} {elem sz : Nat} {x : AV} {es : List (List AV)} (h : OwnS H F elem sz x es) : SlH H sz x es := by
  rcases h with ⟨rfl, h⟩ | ⟨m, e, rfl, hf, hm, hb⟩
  · exact .inl (.inr ⟨rfl, h⟩)
  · exact .inr ⟨m, e, 0, _, rfl, hm, hb, rfl, rfl, rfl, by simp, by simp⟩
theorem OwnS.nil {H : AHeap} {F : Nat → Prop} {elem sz : Nat} : OwnS H F elem sz nilA [] := .inl ⟨rfl, .inr rfl⟩
theorem OwnS.frame {H H' : AHeap} {F F' : Nat → Prop} {elem sz : Nat} {x : AV} {es : List (List AV)} (h : OwnS H F elem sz x es) (hF : ∀ k, F k → F' k) (hn : H.next ≤ H'.next) (hg : ∀ k, F k → k < H.next → H'.get k = H.get k) : OwnS H' F' elem sz x es := by
  rcases h with h | ⟨m, e, rfl, hf, hm, hb⟩
  · exact .inl h
  · exact .inr ⟨m, e, rfl, hF m hf, Nat.lt_of_lt_of_le hm hn, by rw [hg m hf hm, hb]⟩
theorem cells_SlH {H : AHeap} {sz : Nat} {x : AV} {es : List (List AV)} (h : SlH H sz x es) : cellsOf x = some [x] := by
  rcases h with (rfl | ⟨rfl, rfl | rfl⟩) | ⟨n, e, off, b, rfl, _⟩ <;> rfl
theorem OwnS.set {H : AHeap} {F : Nat → Prop} {elem sz : Nat} {x : AV} {es : List (List AV)} (h : OwnS H F elem sz x es) {n : Nat} {b : Blk} (hb : H.get n = some b) (hne : b.elem ≠ elem) (b' : Blk) : OwnS (H.set n b') F elem sz x es := by
  rcases h with h | ⟨m, e, rfl, hf, hm, hg⟩
  · exact .inl h
  · refine .inr ⟨m, e, rfl, hf, hm, ?_⟩
    rw [get_set, if_neg (by rintro rfl; rw [hb] at hg; cases hg; exact hne rfl)]; exact hg
theorem OwnS.push {H : AHeap} {F : Nat → Prop} {elem sz : Nat} {x : AV} {es : List (List AV)} (h : OwnS H F elem sz x es) (b : Blk) : OwnS (H.push b) F elem sz x es := by
  rcases h with h | ⟨m, e, rfl, hf, hm, hg⟩
  · exact .inl h
  · exact .inr ⟨m, e, rfl, hf, Nat.lt_succ_of_lt hm, by rw [get_push, if_neg (by omega)]; exact hg⟩
theorem OwnS.mono {H : AHeap} {F F' : Nat → Prop} {elem sz : Nat} {x : AV} {es : List (List AV)} (h : OwnS H F elem sz x es) (hF : ∀ k, F k → F' k) : OwnS H F' elem sz x es := by
  rcases h with h | ⟨m, e, rfl, hf, hm, hg⟩
  · exact .inl h
  · exact .inr ⟨m, e, rfl, hF m hf, hm, hg⟩

/-- The name of an owned slice. -/
def nameOf (x : AV) (k : Nat) : Prop := ∃ e off len, x = .os k e off len
theorem OwnS.self {H : AHeap} {F : Nat → Prop} {elem sz : Nat} {x : AV} {es : List (List AV)} (h : OwnS H F elem sz x es) : OwnS H (nameOf x) elem sz x es ∧ ∀ k, nameOf x k → F k ∧ k < H.next ∧ ∃ e es, H.get k = some ⟨elem, sz, e, es, none⟩ := by
  rcases h with ⟨h0, h | h⟩ | ⟨m, e, rfl, hf, hm, hg⟩
  · subst h; exact ⟨.inl ⟨h0, .inl rfl⟩, fun k ⟨_, _, _, h⟩ => by cases h⟩
  · subst h; exact ⟨.inl ⟨h0, .inr rfl⟩, fun k ⟨_, _, _, h⟩ => by cases h⟩
  · refine ⟨.inr ⟨m, e, rfl, ⟨_, _, _, rfl⟩, hm, hg⟩, fun k ⟨_, _, _, h⟩ => ?_⟩
    cases h
    exact ⟨hf, hm, e, _, hg⟩

/-- What a call on the shared heap may turn: the names of F, and new ones. -/
structure Turn (F : Nat → Prop) (H H' : AHeap) : Prop where
  next : H.next ≤ H'.next
  js : H'.js = H.js
  keep : ∀ k, k < H.next → ¬ F k → H'.get k = H.get k
def grow (F : Nat → Prop) (H H' : AHeap) (k : Nat) : Prop := F k ∨ H.next ≤ k ∧ k < H'.next
theorem Turn.refl (F : Nat → Prop) (H : AHeap) : Turn F H H := ⟨Nat.le_refl _, rfl, fun _ _ _ => rfl⟩
theorem Turn.trans {F : Nat → Prop} {H H1 H2 : AHeap} (h : Turn F H H1) (h' : Turn (grow F H H1) H1 H2) : Turn F H H2 :=
  ⟨Nat.le_trans h.next h'.next, by rw [h'.js, h.js], fun k hk hf => by
    rw [h'.keep k (Nat.lt_of_lt_of_le hk h.next) (by rintro (h1 | ⟨h1, _⟩); exact (hf h1).elim; omega), h.keep k hk hf]⟩
theorem Turn.sub {F F' : Nat → Prop} {H H' : AHeap} (h : Turn F H H') (hF : ∀ k, F k → F' k) : Turn F' H H' := ⟨h.next, h.js, fun k hk hf => h.keep k hk fun h' => hf (hF k h')⟩
theorem Turn.push {F : Nat → Prop} {H H' : AHeap} (h : Turn F H H') (b : Blk) : Turn F H (H'.push b) :=
  ⟨Nat.le_succ_of_le h.next, h.js, fun k hk hf => by rw [get_push, if_neg (by have := h.next; omega), h.keep k hk hf]⟩
theorem Turn.set {F : Nat → Prop} {H H' : AHeap} (h : Turn F H H') (n : Nat) (b : Blk) (hn : F n ∨ H.next ≤ n) : Turn F H (H'.set n b) :=
  ⟨h.next, h.js, fun k hk hf => by rw [get_set, if_neg (by rintro rfl; rcases hn with hn | hn; exact (hf hn).elim; omega), h.keep k hk hf]⟩
theorem SlH.turn {F : Nat → Prop} {H H' : AHeap} {sz : Nat} {x : AV} {es : List (List AV)} (h : SlH H sz x es) (ht : Turn F H H') (hF : ∀ k, nameOf x k → ¬ F k) : SlH H' sz x es := by
  rcases h with h | ⟨n, e, off, b, rfl, hl, hb, h⟩
  · exact .inl h
  · exact .inr ⟨n, e, off, b, rfl, Nat.lt_of_lt_of_le hl ht.next, by rw [ht.keep n hl (hF n ⟨_, _, _, rfl⟩), hb], h⟩
/-- A few elements, built on the spot, appended to an owned slice. -/
theorem append_lits (E : Env) (lo : Nat) {H : AHeap} {F : Nat → Prop} {x : AV} {es : List (List AV)} {t elem bytes size : Nat} (h : appInfo E.P t = some (elem, bytes, size)) (hx : OwnS H F elem size x es) (hF : ∀ k, F k → k < H.next) (hlo : ∀ k, F k → lo ≤ k) (hr : (es.length + 8) * bytes ≤ roomMax) :
    ∃ (R : Nat → AV) (G : List (List AV) → Nat → AHeap) (tr : Nat → Tr), ∀ new k, new.length = k → 0 < k → k ≤ 8 → primL lo (H.push ⟨elem, size, 0, new, none⟩) (appendA E t x (.os H.next 0 0 k)) = some (R k, G new k, tr k) ∧ Turn F H (G new k) ∧ OwnS (G new k) (grow F H (G new k)) elem size (R k) (es ++ new) ∧ (G new k).get H.next = some ⟨elem, size, 0, new, none⟩ := by
  have hy : ∀ (new : List (List AV)) (k : Nat), new.length = k → SlH (H.push ⟨elem, size, 0, new, none⟩) size (.os H.next 0 0 k) new := by
    rintro new k rfl
    exact .inr ⟨H.next, 0, 0, _, rfl, Nat.lt_succ_self _, by rw [get_push, if_pos rfl], rfl, rfl, rfl, by simp, by simp⟩
  rcases hx with ⟨rfl, hs⟩ | ⟨m, e, rfl, hFm, hm, hb⟩
  · refine ⟨fun k => .os (H.next + 1) 0 0 k, fun new k => (H.push ⟨elem, size, 0, new, none⟩).push ⟨elem, size, 0, new, none⟩, fun k => ⟨(rdTr (.os H.next 0 0 k)).rd, 2 ^ (H.next + 1), 0⟩, ?_⟩
    rintro new k rfl h0 h8
    have hne : new ≠ [] := by rintro rfl; simp at h0
    refine ⟨?_, ((Turn.refl F H).push _).push _, .inr ⟨H.next + 1, 0, rfl, .inr ⟨Nat.le_succ _, Nat.lt_succ_self _⟩, Nat.lt_succ_self _, by rw [get_push, next_push, if_pos rfl]; rfl⟩, by rw [get_push, next_push, if_neg (by omega), get_push, if_pos rfl]⟩
    have := append_new E lo hs h (hy new _ rfl) hne (Nat.le_trans (Nat.mul_le_mul_right _ (by simp at *; omega)) hr)
    rw [this]; rfl
  · have hmx : ¬ H.next = m := by omega
    refine ⟨fun k => .os m (e + 1) 0 (es.length + k), fun new k => (H.push ⟨elem, size, 0, new, none⟩).set m ⟨elem, size, e + 1, es ++ new, none⟩, fun k => ⟨bitsOf [m, H.next], 2 ^ m, 0⟩, ?_⟩
    rintro new k rfl h0 h8
    have hne : new ≠ [] := by rintro rfl; simp at h0
    refine ⟨?_, ((Turn.refl F H).push _).set m _ (.inl hFm), .inr ⟨m, e + 1, by rw [List.length_append], .inl hFm, Nat.lt_succ_of_lt hm, by rw [get_set, if_pos rfl]⟩, by rw [get_set, if_neg (Ne.symm hmx), get_push, if_pos rfl]⟩
    obtain ⟨z, h1, h2, h3, h4, h5⟩ := appInfo_ok h
    have hb' : (H.push ⟨elem, size, 0, new, none⟩).get m = some ⟨elem, size, e, es, none⟩ := by rw [get_push, if_neg hmx]; exact hb
    have hc' : (H.push ⟨elem, size, 0, new, none⟩).get H.next = some ⟨elem, size, 0, new, none⟩ := by rw [get_push, if_pos rfl]
    have he : new.isEmpty = false := by cases new with | nil => exact absurd rfl hne | cons => rfl
    simp only [appendA, h1, h2, h3, h4, if_neg h5, primL_prim2, hb', hc', Option.bind_some, sliceElems]
    rw [if_neg (Ne.symm hmx)]
    have e1 : (es.drop 0).take es.length = es := by simp
    have e2 : (new.drop 0).take new.length = new := by simp
    rw [if_pos (by simp), Option.bind_some, e2, if_pos (by simp), he, e1]
    simp only [Bool.false_eq_true, if_false]
    rw [if_pos ⟨Nat.le_trans (Nat.mul_le_mul_right _ (by omega)) hr, trivial⟩]
    simp only [Option.bind_some, effL_set', if_pos (hlo m hFm)]
end Go.Am
