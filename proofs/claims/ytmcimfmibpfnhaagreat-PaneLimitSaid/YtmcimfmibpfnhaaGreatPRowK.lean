
/- Rows: blank ones; what is erased. -/
import Derived.Test.YtmcimfmibpfnhaaGreatPRowJ
set_option linter.all false
set_option linter.deprecated false
namespace Go.Am
variable {oc : Orc} [OrcI oc]
open Go.Proofs
set_option maxRecDepth 8000
set_option maxHeartbeats 4000000
def overC (l : List Ce) (off : Nat) (new : List Ce) : List Ce := l.take off ++ new ++ l.drop (off + new.length)
theorem overE_ces (l : List Ce) (off : Nat) (new : List Ce) : overE (cesA l) off (cesA new) = cesA (overC l off new) := by simp [overE, overC, List.map_take, List.map_drop]
theorem copy_self (lo : Nat) {H : AHeap} {n e off len off' len' : Nat} {l : List Ce} (ty t' : TypeId) (hg : H.get n = some (cblk e l)) (h1 : off + len ≤ l.length) (h2 : off' + len' ≤ l.length) (hlo : lo ≤ n) :
    primL lo H (builtinA (ELo oc) .copy #[41, t'] ty [.os n e off len, .os n e off' len']) = some (.v (.int .i64 (min len' len : Nat)), H.set n (cblk e (overC l off ((l.drop off').take (min len' len)))), ⟨bitsOf [n], 2 ^ n, 0⟩) := by
  have hu : (ELo oc).P.underlying 41 = some (.slice 52) := by kernel_rfl
  have hs : infoSize (ELo oc).P 52 = some 3 := by kernel_rfl
  have hl : (((cesA l).drop off').take len').length = len' := by simp; omega
  show primL lo H (copyA (ELo oc) 41 (.os n e off len) (.os n e off' len')) = _
  simp only [copyA, hu, hs, if_true, primL_prim1, hg, Option.bind_some, sliceElems]
  rw [if_pos ⟨trivial, by rw [ces_len]; exact h2, by rfl⟩, Option.bind_some]
  simp only [hl]
  rw [if_pos ⟨trivial, by rfl, by rw [ces_len]; exact h1, trivial, .inr trivial⟩]
  simp only [Option.bind_some, effL_set, if_pos hlo]
  rw [List.take_take, Nat.min_eq_left (Nat.min_le_left len' len), ← List.map_drop, ← List.map_take, overE_ces]
theorem copy_two (lo : Nat) {H : AHeap} {n e off len m e' off' len' : Nat} {l l' : List Ce} (ty t' : TypeId) (hg : H.get n = some (cblk e l)) (hg' : H.get m = some (cblk e' l')) (hne : n ≠ m) (h1 : off + len ≤ l.length) (h2 : off' + len' ≤ l'.length) (hlo : lo ≤ n) :
    primL lo H (builtinA (ELo oc) .copy #[41, t'] ty [.os n e off len, .os m e' off' len']) = some (.v (.int .i64 (min len' len : Nat)), H.set n (cblk e (overC l off ((l'.drop off').take (min len' len)))), ⟨bitsOf [n, m], 2 ^ n, 0⟩) := by
  have hu : (ELo oc).P.underlying 41 = some (.slice 52) := by kernel_rfl
  have hs : infoSize (ELo oc).P 52 = some 3 := by kernel_rfl
  have hl : (((cesA l').drop off').take len').length = len' := by simp; omega
  show primL lo H (copyA (ELo oc) 41 (.os n e off len) (.os m e' off' len')) = _
  simp only [copyA, hu, hs, if_neg hne, primL_prim2, hg, hg', Option.bind_some, sliceElems]
  rw [if_pos ⟨trivial, by rw [ces_len]; exact h2, by rfl⟩, Option.bind_some]
  simp only [hl]
  rw [if_pos ⟨trivial, by rfl, by rw [ces_len]; exact h1, trivial, .inr trivial⟩]
  simp only [Option.bind_some, effL_set', if_pos hlo]
  rw [List.take_take, Nat.min_eq_left (Nat.min_le_left len' len), ← List.map_drop, ← List.map_take, overE_ces]
def zeros (n : Nat) : List Ce := List.replicate n zeroC
theorem mk_cell (lo : Nat) (H : AHeap) (n : Nat) (hn : n ≤ 300) : primL lo H (makeSliceA (ELo oc) 41 (.v (.int .i64 n)) (.v (.int .i64 n))) = some (.os H.next 0 0 n, H.push (cblk 0 (zeros n)), ⟨0, 2 ^ H.next, 0⟩) := by
  have hu : (ELo oc).P.underlying 41 = some (.slice 52) := by kernel_rfl
  have hs : infoSize (ELo oc).P 52 = some 3 := by kernel_rfl
  have hb : infoBytes (ELo oc).P 52 = some 24 := by kernel_rfl
  have hz : zeroCells (ELo oc).P 52 = some (ceA zeroC) := by kernel_rfl
  simp only [makeSliceA, hu, hs, hb, hz]
  rw [if_pos (by unfold roomMax; simp; omega)]
  have e : (zeros n).map (fun c => ceA c) = List.replicate n (ceA zeroC) := by simp [zeros]
  simp only [primL_prim0, Option.bind_some, effL_new, cblk, cesA, e, Int.toNat_natCast]; rfl
theorem and32 (n : Int) (h0 : 0 ≤ n) (h1 : n < 4294967296) : andI .u64 n 4294967295 = n := by
  obtain ⟨k, rfl⟩ : ∃ k : Nat, n = k := ⟨n.toNat, by omega⟩
  have e1 : (BitVec.ofInt 64 (k : Int)).toNat = k := by simp [BitVec.toNat_ofInt]; omega
  unfold andI
  show IntKind.u64.wrap ((BitVec.ofInt 64 (k : Int) &&& BitVec.ofInt 64 4294967295).toNat : Int) = k
  rw [BitVec.toNat_and, e1]
  have e2 : (BitVec.ofInt 64 4294967295).toNat = 2 ^ 32 - 1 := rfl
  rw [e2, Nat.and_two_pow_sub_one_eq_mod, Nat.mod_eq_of_lt (by omega)]
  exact IntWalk.u64_in _ (by omega)
theorem shr32 (n : Int) (h0 : 0 ≤ n) (h1 : n < 4294967296) : shrI .u64 n 32 = 0 := by
  show n.fdiv (2 ^ 32) = 0
  rw [Int.fdiv_eq_ediv_of_nonneg _ (by decide)]
  omega
theorem wrap_u64 (x : Int) (h1 : 0 ≤ x) (h2 : x ≤ 18446744073709551615) : IntKind.u64.wrap x = x := IntWalk.u64_in x ⟨h1, h2⟩
section
variable {ys : List (Nat × LRec)} {lo : Nat} {H : AHeap} {A B : AV} {l m : List Ce} {wr wr' : Bool}
theorem Mul64_run (n : Int) (h0 : 0 ≤ n) (h1 : n < 4294967296) : CallR (ELo oc) ys lo 176 [.v (.int .u64 1), .v (.int .u64 n)] H (.tup [.v (.int .u64 0), .v (.int .u64 n)]) H ⟨0, 0, 0⟩ := by
  refine WC.pure' rfl rfl ?_ _ _ _
  refine zvin Tryz.func176 Tryz.ntmps176 ?_
  repeat' (first | refine zka ?_ | refine zkb ?_ | (apply RKp.op; ((try simp (disch := (first | omega | exact zX | fail)) only [bin_and, bin_shr, and32, shr32, wrap_u64, Int.one_mul, Int.zero_mul, Int.zero_add, Int.add_zero, go_sem]); exact zL); rfl) | refine zkc ?_ | refine zz ?_ | refine zkd ?_ | refine zke ?_ | refine zkf ?_ | (refine RKg.split (fun h => ?_) (fun h => ?_) <;> (try rw [h]) <;> (replace h := zB h) <;> (try (exfalso; first | exact h | omega))) | refine zbt ?_ | apply V.regK | refine zvd ?_ | refine zve ?_ | (refine zvf (fun h => ?_) (fun h => ?_) <;> (replace h := zB h) <;> (try (exfalso; first | exact h | omega))) | (refine zfd Tryz.results176 ?_; (try dsimp only)))
  rfl
theorem Mul_run (n : Int) (h0 : 0 ≤ n) (h1 : n < 4294967296) : CallR (ELo oc) ys lo 153 [.v (.int .u64 1), .v (.int .u64 n)] H (.tup [.v (.int .u64 0), .v (.int .u64 n)]) H ⟨0, 0, 0⟩ := by
  refine WC.pure' rfl rfl ?_ _ _ _
  refine zvin Tryz.func153 Tryz.ntmps153 ?_
  repeat' (first | refine zka ?_ | refine zkb ?_ | (apply RKp.op; ((try simp (disch := (first | omega | exact zX | fail)) only [go_sem]); exact zL); rfl) | (apply RKp.call; (apply Mul64_run <;> (exact zD)); rfl) | refine zkc ?_ | refine zz ?_ | refine zkd ?_ | refine zke ?_ | refine zkf ?_ | (refine RKg.split (fun h => ?_) (fun h => ?_) <;> (try rw [h]) <;> (replace h := zB h) <;> (try (exfalso; first | exact h | omega))) | refine zbt ?_ | apply V.regK | refine zvd ?_ | refine zve ?_ | (refine zvf (fun h => ?_) (fun h => ?_) <;> (replace h := zB h) <;> (try (exfalso; first | exact h | omega))) | (refine zfd Tryz.results153 ?_; (try dsimp only)))
  rfl
theorem Repeat_run [OrcF oc] (k n : Nat) (hk : k < H.next) (hg : H.get k = some (cblk 0 [blankC])) (hn : n ≤ 300) : CallRo (ELo oc) ys lo 110 [.os k 0 0 1, .v (.int .i64 n)] H (.sl 3 (cesA (blanks n))) := by
  refine WC.pureR pR_pure fun lo' H' hh => ?_
  rcases hh with ⟨hlo, rfl⟩ | ⟨_, _, hnf⟩
  · have hgx : ∀ b, (H'.push b).get k = some (cblk 0 [blankC]) := fun b => by rw [get_push, if_neg (by omega)]; exact hg
    have hcp := copy_two lo' (H := H'.push (cblk 0 (zeros n))) (n := H'.next) (e := 0) (off := 0) (len := n) (m := k) (e' := 0) (off' := 0) (len' := 1) (l := zeros n) (l' := [blankC]) 3 41 (by rw [get_push, if_pos rfl]) (hgx _) (by omega) (by simp [zeros]) (by simp) (by omega)
    have hmk := fun H => mk_cell lo' H n hn
    refine zvin Tryz.func110 Tryz.ntmps110 ?_
    repeat' (first | refine zka ?_ | refine zkb ?_ | (apply RKp.op; ((try simp (disch := (first | omega | exact zX | fail)) only [wrap_u64, plan_makeSlice, hmk, hcp, hg, go_sem]); exact zL); rfl) | (apply RKp.call; (apply Mul_run <;> (exact zD)); rfl) | refine zkc ?_ | refine zz ?_ | refine zkd ?_ | refine zke ?_ | refine zkf ?_ | (refine RKg.split (fun h => ?_) (fun h => ?_) <;> (try rw [h]) <;> (replace h := zB h) <;> (try (exfalso; first | exact h | omega))) | refine zbt ?_ | apply V.regK | refine zva ?_ | refine zvb ?_ | refine zvc ?_ | refine zvd ?_ | refine zve ?_ | (refine zvf (fun h => ?_) (fun h => ?_) <;> (replace h := zB h) <;> (try (exfalso; first | exact h | omega))) | (refine zfc Tryz.results110 ?_; (try dsimp only)))
    apply V.lpS [8, 34, 35, 36, 37, 38, 39, 40, 41, 42, 43, 44, 45, 46] (fun k xs H2 => ∃ (i : Nat) (g : _), xs = .v (.int .i64 i) :: g ∧ k = n - i ∧ i ≤ n ∧ (0 < n → 0 < i) ∧ H'.next < H2.next ∧ H2.get H'.next = some (cblk 0 (blanks i ++ zeros (n - i)))) (n - min 1 n)
    focus (intro xs; simp only [putMany, set2, Nat.reduceAdd, Nat.reduceDiv, Nat.reduceMod, nth_zero, nth_succ, List.set_cons_zero, List.set_cons_succ]; rfl)
    focus (first | rfl | simp only [readMany, nth_zero, nth_succ, Nat.reduceDiv, Nat.reduceMod])
    · refine ⟨min 1 n, _, rfl, by omega, by omega, by omega, by (first | omega | (simp only [next_push, next_set, next_empty]; done) | (simp only [next_push, next_set, next_empty]; omega)), ?_⟩
      rw [get_push, if_pos rfl]
      congr 2
      rcases Nat.eq_zero_or_pos n with h0 | h0
      · subst h0; rfl
      · obtain ⟨j, rfl⟩ : ∃ j, n = j + 1 := ⟨n - 1, by omega⟩
        rw [Nat.min_eq_left (by omega)]
        simp [overC, zeros, blanks, List.replicate_succ]
    · rintro k' xs H2 ⟨i, g, rfl, rfl, hi, hp, hn2, g0⟩
      have hlen : (blanks i ++ zeros (n - i)).length = n := by simp [blanks, zeros]; omega
      have hsl : SlH H2 3 (.os H'.next 0 0 n) (cesA (blanks i ++ zeros (n - i))) := .inr ⟨H'.next, 0, 0, _, by rw [ces_len, hlen], hn2, g0, rfl, rfl, rfl, by simp only [Nat.zero_add, Nat.le_refl], by simp only [List.drop_zero, List.take_length]⟩
      have s1 := sl_lo lo' hsl .i64 i (by omega) (by omega)
      have s2 := sl_hi lo' hsl .i64 i (by omega) (by omega)
      rw [ces_len, hlen] at s1
      simp only [cutA, Int.toNat_natCast, Nat.zero_add, Nat.add_zero, Nat.sub_zero] at s1 s2
      have hcp := copy_self lo' (off := i) (len := n - i) (off' := 0) (len' := i) 3 41 g0 (by omega) (by omega) (by omega)
      have hln : (cesA (blanks i ++ zeros (n - i))).length = n := by rw [ces_len, hlen]
      repeat' (first | refine zka ?_ | refine zkb ?_ | (apply RKp.op; ((try simp (disch := (first | omega | exact zX | fail)) only [s1, s2, hcp, g0, hln, List.length_take, Nat.min_self, go_sem]); exact zL); rfl) | refine zkc ?_ | refine zz ?_ | refine zkd ?_ | refine zke ?_ | refine zkf ?_ | (refine RKg.split (fun h => ?_) (fun h => ?_) <;> (try rw [h]) <;> (replace h := zB h) <;> (try (exfalso; first | exact h | omega))) | refine zbt ?_ | apply V.regK | refine zva ?_ | refine zvb ?_ | refine zvc ?_ | refine zvd ?_ | refine zve ?_ | (refine zvf (fun h => ?_) (fun h => ?_) <;> (replace h := zB h) <;> (try (exfalso; first | exact h | omega))) | (refine zfc Tryz.results110 ?_; (try dsimp only)))
      · refine LoopS.again (n - (i + min i (n - i))) (by rfl) (by omega) ⟨i + min i (n - i), _, by rw [show ((i + min i (n - i) : Nat) : Int) = (i : Int) + ((min i (n - i) : Nat) : Int) by omega]; rfl, rfl, by omega, by omega, by (first | omega | (simp only [next_push, next_set, next_empty]; done) | (simp only [next_push, next_set, next_empty]; omega)), ?_⟩
        rw [get_set, if_pos rfl]
        congr 2
        refine ce_ext (by simp [overC, blanks, zeros]; omega) fun j hj => ?_
        simp only [overC, blanks, zeros, List.getD_eq_getElem?_getD]
        grind
      · have : i = n := by omega
        subst this
        have e : blanks i ++ zeros (i - i) = blanks i := by simp [zeros]
        rw [e] at g0
        have := os_frz (lo := lo') (by omega) g0
        rw [blanks_len] at this
        exact this
  · cases hnf
end
end Go.Am
