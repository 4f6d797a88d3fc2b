/- Parts of the proof: PEsc1 PEsc2 PEscQ. -/
import Derived.Test.YtmcimfmibpfnhaaGreatPAmE
set_option linter.all false
set_option linter.deprecated false

namespace Go.Am
variable {oc : Orc} [OrcI oc]
open Go.Proofs
set_option maxRecDepth 8000
set_option maxHeartbeats 1000000

/-! The plain parser. -/
structure Ev where
  kind : Int
  r : Int
  args : List Int
  text : ByteArray
def signB (r : Int) : Bool := decide (0 ≤ r ∧ r ≤ 1114111 ∧ (r < 55296 ∨ 57343 < r))
def enc (r : Int) : List Int :=
  if signB r then
    if r < 128 then [r] else if r < 2048 then [192 + r / 64, 128 + r % 64] else if r < 65536 then [224 + r / 4096, 128 + r / 64 % 64, 128 + r % 64] else [240 + r / 262144, 128 + r / 4096 % 64, 128 + r / 64 % 64, 128 + r % 64]
  else [239, 191, 189]
def utf8 (t : List Int) : List Int := t.flatMap enc
def emptyB : ByteArray := ⟨#[]⟩
def validC (c : Int) : Bool := decide (c = 59 ∨ 48 ≤ c ∧ c ≤ 57)
def stepArgs (a : List Int) (c : Int) : List Int := if c = 59 then a ++ [0] else if 48 ≤ c ∧ c ≤ 57 then a.set (a.length - 1) (min (10 * a.getD (a.length - 1) 0 + (c - 48)) 9999) else a
def csiArgs (t : List Int) : List Int := t.foldl stepArgs [0]
def oscEv (t : List Int) : Option Ev := if (utf8 t).length ≤ 4000 then some ⟨4, 0, [], strOfNums (utf8 t)⟩ else none
def csiEv (t : List Int) (r : Int) : Option Ev := if t.all validC then some ⟨3, r, if t = [] then [] else (csiArgs t).take 8, emptyB⟩ else none
def ctrlB (r : Int) : Bool := decide (r = 8 ∨ r = 9 ∨ r = 10 ∨ r = 13)
def put (w : Int) (t : List Int) (r : Int) : Int × List Int × Option Ev :=
  if w = 4 ∧ r = 92 then (0, t, oscEv t)
  else if w = 4 ∨ w = 1 then (if r = 91 then 2 else if r = 93 then 3 else if r = 27 then 1 else 0, [], none)
  else if w = 0 then if ctrlB r then (0, t, some ⟨2, r, [], emptyB⟩) else if r = 27 then (1, t, none) else if 32 ≤ r ∧ r ≠ 127 then (0, t, some ⟨1, r, [], emptyB⟩) else (0, t, none)
  else if w = 2 then if r = 27 then (1, t, none) else if r < 32 then (0, t, none) else if 64 ≤ r ∧ r ≤ 126 then (0, t, csiEv t r) else (2, t ++ [r], none)
  else if r = 7 then (0, t, oscEv t) else if r = 27 then (4, t, none) else (3, t ++ [r], none)

section
variable {ys : List (Nat × LRec)} {lo : Nat} {H : AHeap} {F : Nat → Prop} {n : Nat} {w : Int} {t : List Int}
/-! esc.Parser. -/
/-- What a call tells: the events, in a slice of their own. -/
def EvR (H : AHeap) (F : Nat → Prop) (R : AV) (e : Option Ev) : Prop := match e with
  | none => R = nilA
  | some e => ∃ k A, R = .os k 0 0 1 ∧ F k ∧ k < H.next ∧ H.get k = some ⟨121, 4, 0, [[.v (.int .i64 e.kind), .v (.int .i32 e.r), A, .v (.string e.text)]], none⟩ ∧ SlH H 1 A (ints e.args) ∧ ∀ m e off len, A = .os m e off len → F m

theorem EvR.new {F' : Nat → Prop} (hF : F' H.next) (k r : Int) (s : ByteArray) : EvR (H.push ⟨121, 4, 0, [[.v (.int .i64 k), .v (.int .i32 r), .v (.slice none 0 0), .v (.string s)]], none⟩) F' (.os H.next 0 0 1) (some ⟨k, r, [], s⟩) :=
  ⟨H.next, _, rfl, hF, Nat.lt_succ_self _, by rw [get_push, if_pos rfl], .inl (.inr ⟨rfl, .inr rfl⟩), fun m e off len h => by cases h⟩
theorem growF {F : Nat → Prop} {H H' : AHeap} (k : Nat) (h : F k) : grow F H H' k := .inl h
theorem grow_next {F : Nat → Prop} {H H' : AHeap} {k : Nat} (h : H.next ≤ k) (h' : k < H'.next) : grow F H H' k := .inr ⟨h, h'⟩
theorem csiArgs_pos (t : List Int) : 0 < (csiArgs t).length := by
  suffices h : ∀ (a : List Int), 0 < a.length → 0 < (t.foldl stepArgs a).length from h [0] (by simp)
  induction t with
  | nil => intro a h; exact h
  | cons c t ih =>
    intro a h
    refine ih _ ?_
    unfold stepArgs
    split
    · simp
    · split
      · rw [List.length_set]; exact h
      · exact h
theorem csiArgs_len (t : List Int) : (csiArgs t).length ≤ t.length + 1 := by
  suffices h : ∀ (a : List Int), (t.foldl stepArgs a).length ≤ t.length + a.length from h [0]
  induction t with
  | nil => intro a; simp
  | cons c t ih =>
    intro a
    refine Nat.le_trans (ih _) ?_
    unfold stepArgs
    split
    · simp; omega
    · split
      · rw [List.length_set]; simp
      · simp
theorem csiArgs_bd (t : List Int) : ∀ x ∈ csiArgs t, 0 ≤ x ∧ x ≤ 9999 := by
  suffices h : ∀ (a : List Int), (∀ x ∈ a, 0 ≤ x ∧ x ≤ 9999) → ∀ x ∈ t.foldl stepArgs a, 0 ≤ x ∧ x ≤ 9999 from h [0] (by simp)
  induction t with
  | nil => intro a h; exact h
  | cons c t ih =>
    intro a h
    refine ih _ ?_
    unfold stepArgs
    have hg : 0 ≤ a.getD (a.length - 1) 0 := by
      rw [List.getD_eq_getElem?_getD]
      cases hx : a[a.length - 1]? with
      | none => simp
      | some y => exact (h y (List.mem_of_getElem? hx)).1
    split
    · intro x hx
      rcases List.mem_append.1 hx with hx | hx
      · exact h x hx
      · simp at hx; omega
    · split
      · intro x hx
        rcases List.mem_or_eq_of_mem_set hx with hx | rfl
        · exact h x hx
        · omega
      · exact h
theorem csiArgs_snoc (t : List Int) (c : Int) : csiArgs (t ++ [c]) = stepArgs (csiArgs t) c := by simp [csiArgs]
theorem put_two (t : List Int) (r : Int) : put 2 t r = if r = 27 then (1, t, none) else if r < 32 then (0, t, none) else if 64 ≤ r ∧ r ≤ 126 then (0, t, csiEv t r) else (2, t ++ [r], none) := by
  unfold put
  rw [if_neg (by omega), if_neg (by omega), if_neg (by omega), if_pos rfl]
end
end Go.Am

namespace Go.Am
variable {oc : Orc} [OrcI oc]
open Go.Proofs
set_option maxRecDepth 8000
set_option maxHeartbeats 1000000
theorem wrap_u8' (n : Int) : IntKind.u8.wrap n = n % 256 := IntKind.wrap_u8 n
theorem wrap_u32' (n : Int) : IntKind.u32.wrap n = n % 4294967296 := IntKind.wrap_u32 n
theorem or_192 (x : Int) (h : 0 ≤ x ∧ x < 32) : orI .u8 192 x = 192 + x := by
  have : ∀ n : Fin 32, orI .u8 192 ((n.val : Nat) : Int) = 192 + ((n.val : Nat) : Int) := by decide
  obtain ⟨n, rfl⟩ := Int.eq_ofNat_of_zero_le h.1
  exact this ⟨n, by omega⟩
theorem or_224 (x : Int) (h : 0 ≤ x ∧ x < 16) : orI .u8 224 x = 224 + x := by
  have : ∀ n : Fin 16, orI .u8 224 ((n.val : Nat) : Int) = 224 + ((n.val : Nat) : Int) := by decide
  obtain ⟨n, rfl⟩ := Int.eq_ofNat_of_zero_le h.1
  exact this ⟨n, by omega⟩
theorem or_240 (x : Int) (h : 0 ≤ x ∧ x < 8) : orI .u8 240 x = 240 + x := by
  have : ∀ n : Fin 8, orI .u8 240 ((n.val : Nat) : Int) = 240 + ((n.val : Nat) : Int) := by decide
  obtain ⟨n, rfl⟩ := Int.eq_ofNat_of_zero_le h.1
  exact this ⟨n, by omega⟩
set_option maxRecDepth 20000 in
theorem or_and (x : Int) (h : 0 ≤ x ∧ x < 256) : orI .u8 128 (andI .u8 x 63) = 128 + x % 64 := by
  have : ∀ n : Fin 256, orI .u8 128 (andI .u8 ((n.val : Nat) : Int) 63) = 128 + ((n.val : Nat) : Int) % 64 := by decide
  obtain ⟨n, rfl⟩ := Int.eq_ofNat_of_zero_le h.1
  exact this ⟨n, by omega⟩
theorem fdiv6 (r : Int) : shrI .i32 r 6 = r / 64 := by
  show r.fdiv 64 = _; rw [Int.fdiv_eq_ediv_of_nonneg _ (by omega)]
theorem fdiv12 (r : Int) : shrI .i32 r 12 = r / 4096 := by
  show r.fdiv 4096 = _; rw [Int.fdiv_eq_ediv_of_nonneg _ (by omega)]
theorem fdiv18 (r : Int) : shrI .i32 r 18 = r / 262144 := by
  show r.fdiv 262144 = _; rw [Int.fdiv_eq_ediv_of_nonneg _ (by omega)]
section
variable {ys : List (Nat × LRec)} {lo : Nat} {H : AHeap} {F : Nat → Prop} {n : Nat} {w : Int} {t : List Int}
theorem appendNon_wc (hlo : ∀ k, F k → lo ≤ k) (hF : ∀ k, F k → k < H.next) {x : AV} {bs : List Int} (hx : OwnS H F 5 1 x (bytesL bs)) (r : Int) (hr : -2147483648 ≤ r ∧ r ≤ 2147483647) (h127 : r < 0 ∨ 127 < r) (hb : bs.length < 2 ^ 40) : WC (ELo oc) ys lo 177 [x, .v (.int .i32 r)] H fun R H' => Turn F H H' ∧ OwnS H' (grow F H H') 5 1 R (bytesL (bs ++ enc r)) := by
  obtain ⟨R, G, tr, hap⟩ := append_lits (ELo oc) lo (t := 79) (bytes := 1) (by kernel_rfl) hx hF hlo (by rw [bytesL_len]; show (bs.length + 8) * 1 ≤ 140737488355328; omega)
  have h1 := fun new k a b c => (hap new k a b c).1
  refine zvin Tryz.func177 Tryz.ntmps177 ?_
  repeat' (first | refine zz ?_ | refine zbt ?_ | (apply V.reg; (focus ((repeat (first | exact RO.nil | (apply RO.op; rfl; (simp only [h1, bin_or, bin_and, bin_shr, fdiv6, fdiv12, fdiv18, Int.reduceLT, not_false_eq_true, go_sem, get_nth, fieldAddrA, Nat.reduceDiv, Nat.reduceMod, Nat.reduceAdd, Nat.reduceSub, Nat.reduceEqDiff, Nat.reduceLeDiff, Nat.reduceLT, Nat.reduceMul, reduceIte, Nat.reducePow, Int.reduceEq, List.toList_toArray]; exact zL); rfl) | (apply RO.opg; exact zW; (intro h; (try simp only [Bool.and_eq_true, Bool.not_eq_true', Bool.not_eq_eq_eq_not, Bool.not_true] at h); simp only [h, h1, bin_or, bin_and, bin_shr, fdiv6, fdiv12, fdiv18, Int.reduceLT, not_false_eq_true, go_sem, get_nth, fieldAddrA, Nat.reduceDiv, Nat.reduceMod, Nat.reduceAdd, Nat.reduceSub, Nat.reduceEqDiff, Nat.reduceLeDiff, Nat.reduceLT, Nat.reduceMul, reduceIte, Nat.reducePow, Int.reduceEq, List.toList_toArray]; exact zL); rfl) | (apply RO.call; exact want0 rfl; (simp only [h1, bin_or, bin_and, bin_shr, fdiv6, fdiv12, fdiv18, Int.reduceLT, not_false_eq_true, go_sem, get_nth, fieldAddrA, Nat.reduceDiv, Nat.reduceMod, Nat.reduceAdd, Nat.reduceSub, Nat.reduceEqDiff, Nat.reduceLeDiff, Nat.reduceLT, Nat.reduceMul, reduceIte, Nat.reducePow, Int.reduceEq, List.toList_toArray]; rfl); fail; rfl) | (apply RO.callg; exact zW; (intro h; (try simp only [Bool.and_eq_true, Bool.not_eq_true', Bool.not_eq_eq_eq_not, Bool.not_true] at h); simp only [h, h1, bin_or, bin_and, bin_shr, fdiv6, fdiv12, fdiv18, Int.reduceLT, not_false_eq_true, go_sem, get_nth, fieldAddrA, Nat.reduceDiv, Nat.reduceMod, Nat.reduceAdd, Nat.reduceSub, Nat.reduceEqDiff, Nat.reduceLeDiff, Nat.reduceLT, Nat.reduceMul, reduceIte, Nat.reducePow, Int.reduceEq, List.toList_toArray]; rfl); (intro h; (try simp only [Bool.and_eq_true, Bool.not_eq_true', Bool.not_eq_eq_eq_not, Bool.not_true] at h); fail); rfl) | (apply RO.no; apply wantNo; exact zW; (first | rfl | (focus (simp only [h1, bin_or, bin_and, bin_shr, fdiv6, fdiv12, fdiv18, Int.reduceLT, not_false_eq_true, Bool.and_false, Bool.false_and, Bool.not_true, Bool.not_false, decide_true, decide_false, Bool.or_true, Bool.true_or, not_true_eq_false, not_false_eq_true, Bool.and_true, Bool.true_and]; done))); rfl))); done))) | (apply V.regd; (focus ((repeat (first | exact RO.nil | (apply RO.op; rfl; (simp only [h1, bin_or, bin_and, bin_shr, fdiv6, fdiv12, fdiv18, Int.reduceLT, not_false_eq_true, go_sem, get_nth, fieldAddrA, Nat.reduceDiv, Nat.reduceMod, Nat.reduceAdd, Nat.reduceSub, Nat.reduceEqDiff, Nat.reduceLeDiff, Nat.reduceLT, Nat.reduceMul, reduceIte, Nat.reducePow, Int.reduceEq, List.toList_toArray]; exact zL); rfl) | (apply RO.opg; exact zW; (intro h; (try simp only [Bool.and_eq_true, Bool.not_eq_true', Bool.not_eq_eq_eq_not, Bool.not_true] at h); simp only [h, h1, bin_or, bin_and, bin_shr, fdiv6, fdiv12, fdiv18, Int.reduceLT, not_false_eq_true, go_sem, get_nth, fieldAddrA, Nat.reduceDiv, Nat.reduceMod, Nat.reduceAdd, Nat.reduceSub, Nat.reduceEqDiff, Nat.reduceLeDiff, Nat.reduceLT, Nat.reduceMul, reduceIte, Nat.reducePow, Int.reduceEq, List.toList_toArray]; exact zL); rfl) | (apply RO.call; exact want0 rfl; (simp only [h1, bin_or, bin_and, bin_shr, fdiv6, fdiv12, fdiv18, Int.reduceLT, not_false_eq_true, go_sem, get_nth, fieldAddrA, Nat.reduceDiv, Nat.reduceMod, Nat.reduceAdd, Nat.reduceSub, Nat.reduceEqDiff, Nat.reduceLeDiff, Nat.reduceLT, Nat.reduceMul, reduceIte, Nat.reducePow, Int.reduceEq, List.toList_toArray]; rfl); fail; rfl) | (apply RO.callg; exact zW; (intro h; (try simp only [Bool.and_eq_true, Bool.not_eq_true', Bool.not_eq_eq_eq_not, Bool.not_true] at h); simp only [h, h1, bin_or, bin_and, bin_shr, fdiv6, fdiv12, fdiv18, Int.reduceLT, not_false_eq_true, go_sem, get_nth, fieldAddrA, Nat.reduceDiv, Nat.reduceMod, Nat.reduceAdd, Nat.reduceSub, Nat.reduceEqDiff, Nat.reduceLeDiff, Nat.reduceLT, Nat.reduceMul, reduceIte, Nat.reducePow, Int.reduceEq, List.toList_toArray]; rfl); (intro h; (try simp only [Bool.and_eq_true, Bool.not_eq_true', Bool.not_eq_eq_eq_not, Bool.not_true] at h); fail); rfl) | (apply RO.no; apply wantNo; exact zW; (first | rfl | (focus (simp only [h1, bin_or, bin_and, bin_shr, fdiv6, fdiv12, fdiv18, Int.reduceLT, not_false_eq_true, Bool.and_false, Bool.false_and, Bool.not_true, Bool.not_false, decide_true, decide_false, Bool.or_true, Bool.true_or, not_true_eq_false, not_false_eq_true, Bool.and_true, Bool.true_and]; done))); rfl))); done)); exact zK; exact zE) | (refine zvf (fun h => ?_) (fun h => ?_) <;> (replace h := zB h) <;> (try (exfalso; first | exact h | omega))) | (refine zfc Tryz.results177 ?_; (try dsimp only)))
  · rw [wrap_u32'] at h
    have hn : 0 ≤ r ∧ r ≤ 2047 := by omega
    have e1 : bytesL (enc r) = [[.v (.int .u8 (192 + r / 64))], [.v (.int .u8 (128 + r % 64))]] := by
      rw [enc, if_pos (show signB r = true from decide_eq_true (by omega)), if_neg (by omega), if_pos (by omega)]; rfl
    rw [wrap_u8' (r / 64), wrap_u8' r, or_192 _ (by omega), or_and _ (by omega)]
    rw [show r / 64 % 256 = r / 64 by omega, show r % 256 % 64 = r % 64 by omega]
    obtain ⟨_, h2, h3, _⟩ := hap [[.v (.int .u8 (192 + r / 64))], [.v (.int .u8 (128 + r % 64))]] 2 rfl (by decide) (by decide)
    exact ⟨h2, by rw [bytesL_append, e1]; exact h3⟩
  · simp only [wrap_u32'] at *
    have hn : 2048 ≤ r ∧ r < 55296 := by omega
    have e1 : bytesL (enc r) = [[.v (.int .u8 (224 + r / 4096))], [.v (.int .u8 (128 + r / 64 % 64))], [.v (.int .u8 (128 + r % 64))]] := by
      rw [enc, if_pos (show signB r = true from decide_eq_true (by omega)), if_neg (by omega), if_neg (by omega), if_pos (by omega)]; rfl
    rw [wrap_u8' (r / 4096), wrap_u8' (r / 64), wrap_u8' r, or_224 _ (by omega), or_and (r / 64 % 256) (by omega), or_and (r % 256) (by omega)]
    rw [show r / 4096 % 256 = r / 4096 by omega, show r / 64 % 256 % 64 = r / 64 % 64 by omega, show r % 256 % 64 = r % 64 by omega]
    obtain ⟨_, h2, h3, _⟩ := hap [[.v (.int .u8 (224 + r / 4096))], [.v (.int .u8 (128 + r / 64 % 64))], [.v (.int .u8 (128 + r % 64))]] 3 rfl (by decide) (by decide)
    exact ⟨h2, by rw [bytesL_append, e1]; exact h3⟩
  · simp only [wrap_u32'] at *
    have hn : 57343 < r ∧ r ≤ 65535 := by omega
    have e1 : bytesL (enc r) = [[.v (.int .u8 (224 + r / 4096))], [.v (.int .u8 (128 + r / 64 % 64))], [.v (.int .u8 (128 + r % 64))]] := by
      rw [enc, if_pos (show signB r = true from decide_eq_true (by omega)), if_neg (by omega), if_neg (by omega), if_pos (by omega)]; rfl
    rw [wrap_u8' (r / 4096), wrap_u8' (r / 64), wrap_u8' r, or_224 _ (by omega), or_and (r / 64 % 256) (by omega), or_and (r % 256) (by omega)]
    rw [show r / 4096 % 256 = r / 4096 by omega, show r / 64 % 256 % 64 = r / 64 % 64 by omega, show r % 256 % 64 = r % 64 by omega]
    obtain ⟨_, h2, h3, _⟩ := hap [[.v (.int .u8 (224 + r / 4096))], [.v (.int .u8 (128 + r / 64 % 64))], [.v (.int .u8 (128 + r % 64))]] 3 rfl (by decide) (by decide)
    exact ⟨h2, by rw [bytesL_append, e1]; exact h3⟩
  · simp only [wrap_u32'] at *
    have hn : 65535 < r ∧ r ≤ 1114111 := by omega
    have e1 : bytesL (enc r) = [[.v (.int .u8 (240 + r / 262144))], [.v (.int .u8 (128 + r / 4096 % 64))], [.v (.int .u8 (128 + r / 64 % 64))], [.v (.int .u8 (128 + r % 64))]] := by
      rw [enc, if_pos (show signB r = true from decide_eq_true (by omega)), if_neg (by omega), if_neg (by omega), if_neg (by omega)]; rfl
    rw [wrap_u8' (r / 262144), wrap_u8' (r / 4096), wrap_u8' (r / 64), wrap_u8' r, or_240 _ (by omega), or_and (r / 4096 % 256) (by omega), or_and (r / 64 % 256) (by omega), or_and (r % 256) (by omega)]
    rw [show r / 262144 % 256 = r / 262144 by omega, show r / 4096 % 256 % 64 = r / 4096 % 64 by omega, show r / 64 % 256 % 64 = r / 64 % 64 by omega, show r % 256 % 64 = r % 64 by omega]
    obtain ⟨_, h2, h3, _⟩ := hap [[.v (.int .u8 (240 + r / 262144))], [.v (.int .u8 (128 + r / 4096 % 64))], [.v (.int .u8 (128 + r / 64 % 64))], [.v (.int .u8 (128 + r % 64))]] 4 rfl (by decide) (by decide)
    exact ⟨h2, by rw [bytesL_append, e1]; exact h3⟩
  · simp only [wrap_u32'] at *
    have e1 : bytesL (enc r) = [[.v (.int .u8 239)], [.v (.int .u8 191)], [.v (.int .u8 189)]] := by
      have : signB r = false := decide_eq_false (by omega)
      rw [enc, this]; rfl
    obtain ⟨_, h2, h3, _⟩ := hap [[.v (.int .u8 239)], [.v (.int .u8 191)], [.v (.int .u8 189)]] 3 rfl (by decide) (by decide)
    exact ⟨h2, by rw [bytesL_append, e1]; exact h3⟩
theorem appendRune_wc (hlo : ∀ k, F k → lo ≤ k) (hF : ∀ k, F k → k < H.next) {x : AV} {bs : List Int} (hx : OwnS H F 5 1 x (bytesL bs)) (r : Int) (hr : -2147483648 ≤ r ∧ r ≤ 2147483647) (hb : bs.length < 2 ^ 40) : WC (ELo oc) ys lo 154 [x, .v (.int .i32 r)] H fun R H' => Turn F H H' ∧ OwnS H' (grow F H H') 5 1 R (bytesL (bs ++ enc r)) := by
  obtain ⟨R, G, tr, hap⟩ := append_lits (ELo oc) lo (t := 79) (bytes := 1) (by kernel_rfl) hx hF hlo (by rw [bytesL_len]; show (bs.length + 8) * 1 ≤ 140737488355328; omega)
  have h1 := fun new k a b c => (hap new k a b c).1
  refine zvin Tryz.func154 Tryz.ntmps154 ?_
  repeat' (first | refine zz ?_ | refine zbt ?_ | (apply V.reg; (focus ((repeat (first | exact RO.nil | (apply RO.op; rfl; (simp only [h1, go_sem, get_nth, fieldAddrA, Nat.reduceDiv, Nat.reduceMod, Nat.reduceAdd, Nat.reduceSub, Nat.reduceEqDiff, Nat.reduceLeDiff, Nat.reduceLT, Nat.reduceMul, reduceIte, Nat.reducePow, Int.reduceEq, List.toList_toArray]; exact zL); rfl) | (apply RO.opg; exact zW; (intro h; (try simp only [Bool.and_eq_true, Bool.not_eq_true', Bool.not_eq_eq_eq_not, Bool.not_true] at h); simp only [h, h1, go_sem, get_nth, fieldAddrA, Nat.reduceDiv, Nat.reduceMod, Nat.reduceAdd, Nat.reduceSub, Nat.reduceEqDiff, Nat.reduceLeDiff, Nat.reduceLT, Nat.reduceMul, reduceIte, Nat.reducePow, Int.reduceEq, List.toList_toArray]; exact zL); rfl) | (apply RO.call; exact want0 rfl; (simp only [h1, go_sem, get_nth, fieldAddrA, Nat.reduceDiv, Nat.reduceMod, Nat.reduceAdd, Nat.reduceSub, Nat.reduceEqDiff, Nat.reduceLeDiff, Nat.reduceLT, Nat.reduceMul, reduceIte, Nat.reducePow, Int.reduceEq, List.toList_toArray]; rfl); fail; rfl) | (apply RO.callg; exact zW; (intro h; (try simp only [Bool.and_eq_true, Bool.not_eq_true', Bool.not_eq_eq_eq_not, Bool.not_true] at h); simp only [h, h1, go_sem, get_nth, fieldAddrA, Nat.reduceDiv, Nat.reduceMod, Nat.reduceAdd, Nat.reduceSub, Nat.reduceEqDiff, Nat.reduceLeDiff, Nat.reduceLT, Nat.reduceMul, reduceIte, Nat.reducePow, Int.reduceEq, List.toList_toArray]; rfl); (intro h; (try simp only [Bool.and_eq_true, Bool.not_eq_true', Bool.not_eq_eq_eq_not, Bool.not_true] at h); fail); rfl) | (apply RO.no; apply wantNo; exact zW; (first | rfl | (focus (simp only [h1, Bool.and_false, Bool.false_and, Bool.not_true, Bool.not_false, decide_true, decide_false, Bool.or_true, Bool.true_or, not_true_eq_false, not_false_eq_true, Bool.and_true, Bool.true_and]; done))); rfl))); done))) | (apply V.regd; (focus ((repeat (first | exact RO.nil | (apply RO.op; rfl; (simp only [h1, go_sem, get_nth, fieldAddrA, Nat.reduceDiv, Nat.reduceMod, Nat.reduceAdd, Nat.reduceSub, Nat.reduceEqDiff, Nat.reduceLeDiff, Nat.reduceLT, Nat.reduceMul, reduceIte, Nat.reducePow, Int.reduceEq, List.toList_toArray]; exact zL); rfl) | (apply RO.opg; exact zW; (intro h; (try simp only [Bool.and_eq_true, Bool.not_eq_true', Bool.not_eq_eq_eq_not, Bool.not_true] at h); simp only [h, h1, go_sem, get_nth, fieldAddrA, Nat.reduceDiv, Nat.reduceMod, Nat.reduceAdd, Nat.reduceSub, Nat.reduceEqDiff, Nat.reduceLeDiff, Nat.reduceLT, Nat.reduceMul, reduceIte, Nat.reducePow, Int.reduceEq, List.toList_toArray]; exact zL); rfl) | (apply RO.call; exact want0 rfl; (simp only [h1, go_sem, get_nth, fieldAddrA, Nat.reduceDiv, Nat.reduceMod, Nat.reduceAdd, Nat.reduceSub, Nat.reduceEqDiff, Nat.reduceLeDiff, Nat.reduceLT, Nat.reduceMul, reduceIte, Nat.reducePow, Int.reduceEq, List.toList_toArray]; rfl); fail; rfl) | (apply RO.callg; exact zW; (intro h; (try simp only [Bool.and_eq_true, Bool.not_eq_true', Bool.not_eq_eq_eq_not, Bool.not_true] at h); simp only [h, h1, go_sem, get_nth, fieldAddrA, Nat.reduceDiv, Nat.reduceMod, Nat.reduceAdd, Nat.reduceSub, Nat.reduceEqDiff, Nat.reduceLeDiff, Nat.reduceLT, Nat.reduceMul, reduceIte, Nat.reducePow, Int.reduceEq, List.toList_toArray]; rfl); (intro h; (try simp only [Bool.and_eq_true, Bool.not_eq_true', Bool.not_eq_eq_eq_not, Bool.not_true] at h); fail); rfl) | (apply RO.no; apply wantNo; exact zW; (first | rfl | (focus (simp only [h1, Bool.and_false, Bool.false_and, Bool.not_true, Bool.not_false, decide_true, decide_false, Bool.or_true, Bool.true_or, not_true_eq_false, not_false_eq_true, Bool.and_true, Bool.true_and]; done))); rfl))); done)); exact zK; exact zE) | (refine zvf (fun h => ?_) (fun h => ?_) <;> (replace h := zB h) <;> (try (exfalso; first | exact h | omega))) | (refine zfc Tryz.results154 ?_; (try dsimp only)))
  · rw [wrap_u32'] at h
    have hn : 0 ≤ r ∧ r ≤ 127 := by omega
    have e1 : bytesL (enc r) = [[.v (.int .u8 r)]] := by
      rw [enc, if_pos (show signB r = true from decide_eq_true (by omega)), if_pos (by omega)]; rfl
    rw [wrap_u8' r, show r % 256 = r by omega]
    obtain ⟨_, h2, h3, _⟩ := hap [[.v (.int .u8 r)]] 1 rfl (by decide) (by decide)
    exact ⟨h2, by rw [bytesL_append, e1]; exact h3⟩
  · rw [wrap_u32'] at h
    obtain ⟨R', H1, ⟨h2, h3⟩, hc⟩ := WC.eff (ys := ys) (lo := lo) rfl (appendNon_wc hlo hF hx r hr (by omega) hb)
    repeat' (first | refine zz ?_ | refine zbt ?_ | (apply V.reg; (focus ((repeat (first | exact RO.nil | (apply RO.op; rfl; (simp only [h1, go_sem, get_nth, fieldAddrA, Nat.reduceDiv, Nat.reduceMod, Nat.reduceAdd, Nat.reduceSub, Nat.reduceEqDiff, Nat.reduceLeDiff, Nat.reduceLT, Nat.reduceMul, reduceIte, Nat.reducePow, Int.reduceEq, List.toList_toArray]; exact zL); rfl) | (apply RO.opg; exact zW; (intro h; (try simp only [Bool.and_eq_true, Bool.not_eq_true', Bool.not_eq_eq_eq_not, Bool.not_true] at h); simp only [h, h1, go_sem, get_nth, fieldAddrA, Nat.reduceDiv, Nat.reduceMod, Nat.reduceAdd, Nat.reduceSub, Nat.reduceEqDiff, Nat.reduceLeDiff, Nat.reduceLT, Nat.reduceMul, reduceIte, Nat.reducePow, Int.reduceEq, List.toList_toArray]; exact zL); rfl) | (apply RO.call; exact want0 rfl; (simp only [h1, go_sem, get_nth, fieldAddrA, Nat.reduceDiv, Nat.reduceMod, Nat.reduceAdd, Nat.reduceSub, Nat.reduceEqDiff, Nat.reduceLeDiff, Nat.reduceLT, Nat.reduceMul, reduceIte, Nat.reducePow, Int.reduceEq, List.toList_toArray]; rfl); (first | (apply hc <;> (exact zD))); rfl) | (apply RO.callg; exact zW; (intro h; (try simp only [Bool.and_eq_true, Bool.not_eq_true', Bool.not_eq_eq_eq_not, Bool.not_true] at h); simp only [h, h1, go_sem, get_nth, fieldAddrA, Nat.reduceDiv, Nat.reduceMod, Nat.reduceAdd, Nat.reduceSub, Nat.reduceEqDiff, Nat.reduceLeDiff, Nat.reduceLT, Nat.reduceMul, reduceIte, Nat.reducePow, Int.reduceEq, List.toList_toArray]; rfl); (intro h; (try simp only [Bool.and_eq_true, Bool.not_eq_true', Bool.not_eq_eq_eq_not, Bool.not_true] at h); (first | (apply hc <;> (exact zD)))); rfl) | (apply RO.no; apply wantNo; exact zW; (first | rfl | (focus (simp only [h1, Bool.and_false, Bool.false_and, Bool.not_true, Bool.not_false, decide_true, decide_false, Bool.or_true, Bool.true_or, not_true_eq_false, not_false_eq_true, Bool.and_true, Bool.true_and]; done))); rfl))); done))) | (apply V.regd; (focus ((repeat (first | exact RO.nil | (apply RO.op; rfl; (simp only [h1, go_sem, get_nth, fieldAddrA, Nat.reduceDiv, Nat.reduceMod, Nat.reduceAdd, Nat.reduceSub, Nat.reduceEqDiff, Nat.reduceLeDiff, Nat.reduceLT, Nat.reduceMul, reduceIte, Nat.reducePow, Int.reduceEq, List.toList_toArray]; exact zL); rfl) | (apply RO.opg; exact zW; (intro h; (try simp only [Bool.and_eq_true, Bool.not_eq_true', Bool.not_eq_eq_eq_not, Bool.not_true] at h); simp only [h, h1, go_sem, get_nth, fieldAddrA, Nat.reduceDiv, Nat.reduceMod, Nat.reduceAdd, Nat.reduceSub, Nat.reduceEqDiff, Nat.reduceLeDiff, Nat.reduceLT, Nat.reduceMul, reduceIte, Nat.reducePow, Int.reduceEq, List.toList_toArray]; exact zL); rfl) | (apply RO.call; exact want0 rfl; (simp only [h1, go_sem, get_nth, fieldAddrA, Nat.reduceDiv, Nat.reduceMod, Nat.reduceAdd, Nat.reduceSub, Nat.reduceEqDiff, Nat.reduceLeDiff, Nat.reduceLT, Nat.reduceMul, reduceIte, Nat.reducePow, Int.reduceEq, List.toList_toArray]; rfl); (first | (apply hc <;> (exact zD))); rfl) | (apply RO.callg; exact zW; (intro h; (try simp only [Bool.and_eq_true, Bool.not_eq_true', Bool.not_eq_eq_eq_not, Bool.not_true] at h); simp only [h, h1, go_sem, get_nth, fieldAddrA, Nat.reduceDiv, Nat.reduceMod, Nat.reduceAdd, Nat.reduceSub, Nat.reduceEqDiff, Nat.reduceLeDiff, Nat.reduceLT, Nat.reduceMul, reduceIte, Nat.reducePow, Int.reduceEq, List.toList_toArray]; rfl); (intro h; (try simp only [Bool.and_eq_true, Bool.not_eq_true', Bool.not_eq_eq_eq_not, Bool.not_true] at h); (first | (apply hc <;> (exact zD)))); rfl) | (apply RO.no; apply wantNo; exact zW; (first | rfl | (focus (simp only [h1, Bool.and_false, Bool.false_and, Bool.not_true, Bool.not_false, decide_true, decide_false, Bool.or_true, Bool.true_or, not_true_eq_false, not_false_eq_true, Bool.and_true, Bool.true_and]; done))); rfl))); done)); exact zK; exact zE) | (refine zvf (fun h => ?_) (fun h => ?_) <;> (replace h := zB h) <;> (try (exfalso; first | exact h | omega))) | (refine zfc Tryz.results154 ?_; (try dsimp only)))
    exact ⟨h2, h3⟩
theorem enc_len (r : Int) : 1 ≤ (enc r).length ∧ (enc r).length ≤ 4 := by
  unfold enc
  split
  · split
    · simp
    · split
      · simp
      · split <;> simp
  · simp
theorem utf8_len (t : List Int) : (utf8 t).length ≤ 4 * t.length := by
  induction t with
  | nil => simp [utf8]
  | cons c t ih =>
    have := (enc_len c).2
    simp only [utf8, List.flatMap_cons, List.length_append, List.length_cons] at ih ⊢
    omega
theorem utf8_snoc (t : List Int) (r : Int) : utf8 (t ++ [r]) = utf8 t ++ enc r := by simp [utf8]
theorem put_three (t : List Int) (r : Int) : put 3 t r = if r = 7 then (0, t, oscEv t) else if r = 27 then (4, t, none) else (3, t ++ [r], none) := by
  unfold put
  rw [if_neg (by omega), if_neg (by omega), if_neg (by omega), if_neg (by omega)]
end
end Go.Am

namespace Go.Am
variable {oc : Orc} [OrcI oc]
open Go.Proofs
set_option maxRecDepth 8000
set_option maxHeartbeats 1000000
section
variable {ys : List (Nat × LRec)} {lo : Nat} {H : AHeap} {F : Nat → Prop} {n : Nat} {w : Int} {t : List Int}
theorem put_mem (w : Int) (t : List Int) (r : Int) : ∀ c ∈ (put w t r).2.1, c ∈ t ∨ c = r := by
  unfold put
  intro c
  (repeat' split) <;> simp <;> (try exact Or.inl)
theorem put_len (w : Int) (t : List Int) (r : Int) : (put w t r).2.1.length ≤ t.length + 1 := by
  unfold put
  (repeat' split) <;> simp
end
end Go.Am
