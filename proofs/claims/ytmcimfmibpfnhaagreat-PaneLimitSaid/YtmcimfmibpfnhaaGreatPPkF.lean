/- Parts of the proof: PPkA PPkB PPkC PPkD PPkE PPkF. -/
import Derived.Test.YtmcimfmibpfnhaaGreatPLnN
import Derived.Test.YtmcimfmibpfnhaaGreatPUtf1
import Derived.Test.YtmcimfmibpfnhaaGreatPRowK
set_option linter.all false
set_option linter.deprecated false

namespace Go.Am
variable {oc : Orc} [OrcI oc]
open Go.Proofs
set_option maxRecDepth 8000
set_option maxHeartbeats 8000000
def ub (n : Nat) : List Int := if h : n < 128 then [(n : Int)] else ((n % 128 + 128 : Nat) : Int) :: ub (n / 128)
termination_by n
decreasing_by omega
theorem ub_lt {n : Nat} (h : n < 128) : ub n = [(n : Int)] := by rw [ub, dif_pos h]
theorem ub_ge {n : Nat} (h : ¬ n < 128) : ub n = ((n % 128 + 128 : Nat) : Int) :: ub (n / 128) := by rw [ub, dif_neg h]
theorem ub_pos (n : Nat) : 1 ≤ (ub n).length := by
  rw [ub]; split <;> simp
theorem ub_len (k : Nat) : ∀ n : Nat, n < 128 ^ (k + 1) → (ub n).length ≤ k + 1 := by
  induction k with
  | zero => intro n h; rw [ub_lt (by simpa using h)]; exact Nat.le_refl _
  | succ k ih =>
    intro n h
    by_cases q : n < 128
    · rw [ub_lt q]; simp
    · rw [ub_ge q, List.length_cons]
      have := ih (n / 128) (by rw [Nat.div_lt_iff_lt_mul (by decide)]; rw [Nat.pow_succ] at h; exact h)
      omega
theorem and127 (x : Int) (h : 0 ≤ x ∧ x < 256) : andI .u8 x 127 = x % 128 := by
  have : ∀ n : Fin 256, andI .u8 ((n.val : Nat) : Int) 127 = ((n.val : Nat) : Int) % 128 := by decide +kernel
  obtain ⟨n, rfl⟩ := Int.eq_ofNat_of_zero_le h.1
  exact this ⟨n, by omega⟩
theorem or128 (x : Int) (h : 0 ≤ x ∧ x < 256) : orI .u8 x 128 = x % 128 + 128 := by
  have : ∀ n : Fin 256, orI .u8 ((n.val : Nat) : Int) 128 = ((n.val : Nat) : Int) % 128 + 128 := by decide +kernel
  obtain ⟨n, rfl⟩ := Int.eq_ofNat_of_zero_le h.1
  exact this ⟨n, by omega⟩
theorem shr7 (n : Int) (h : 0 ≤ n) : shrI .u64 n 7 = n / 128 := by
  show n.fdiv (2 ^ 7) = n / 128
  rw [Int.fdiv_eq_ediv_of_nonneg _ (by decide)]; rfl
theorem wrap_u64' (x : Int) (h1 : 0 ≤ x) (h2 : x ≤ 18446744073709551615) : IntKind.u64.wrap x = x := IntWalk.u64_in x ⟨h1, h2⟩
theorem wrap_u8m (n : Int) : IntKind.u8.wrap n = n % 256 := IntKind.wrap_u8 n
theorem orU64 (a b i : Nat) (ha : a < 2 ^ i) (hb : a + b * 2 ^ i < 2 ^ 64) : orI .u64 (a : Int) ((b * 2 ^ i : Nat) : Int) = ((a + b * 2 ^ i : Nat) : Int) := by
  have h1 : (BitVec.ofInt 64 (a : Int)).toNat = a := by rw [BitVec.ofInt_natCast, BitVec.toNat_ofNat]; exact Nat.mod_eq_of_lt (by omega)
  have h2 : (BitVec.ofInt 64 ((b * 2 ^ i : Nat) : Int)).toNat = b * 2 ^ i := by rw [BitVec.ofInt_natCast, BitVec.toNat_ofNat]; exact Nat.mod_eq_of_lt (by omega)
  show IntKind.u64.wrap (((BitVec.ofInt 64 (a : Int) ||| BitVec.ofInt 64 ((b * 2 ^ i : Nat) : Int)).toNat : Nat) : Int) = _
  rw [BitVec.toNat_or, h1, h2, Nat.or_comm]
  have h3 := Nat.shiftLeft_add_eq_or_of_lt ha b
  rw [Nat.shiftLeft_eq] at h3
  rw [← h3, Nat.add_comm]
  exact wrap_u64' _ (by omega) (by omega)
theorem app_byte : appInfo (ELo oc).P 79 = some (5, 1, 1) := by kernel_rfl
theorem flat_bytes (l : List Int) : FlatE (bytesL l) := FlatE.map (fun c x hx => by rw [List.mem_singleton] at hx; subst hx; rfl) l
section
variable {ys : List (Nat × LRec)} {lo : Nat} {H : AHeap}
abbrev ubBlk (n : Nat) : Blk := ⟨5, 1, 0, bytesL (ub n), none⟩
theorem Uint_run (n : Nat) (hn : n < 2 ^ 40) : CallN (ELo oc) ys lo 180 [.v (.int .u64 (n : Int))] H (.os H.next 0 0 (ub n).length) (H.push (ubBlk n)) := by
  refine WC.ownN (x := fun m => .os m 0 0 (ub n).length) (bs := fun _ => [ubBlk n]) rfl fun lo' H' hh => ?_
  have hlo := lo_two hh
  refine zvin Tryz.func180 Tryz.ntmps180 ?_
  repeat' (first | refine zka ?_ | refine zkb ?_ | (apply RKp.op; ((try simp (disch := (first | exact zQ | fail)) only [go_sem]); exact zL); rfl) | refine zkc ?_ | refine zz ?_ | refine zkd ?_ | refine zke ?_ | refine zkf ?_ | (refine RKg.split (fun h => ?_) (fun h => ?_) <;> (try rw [h]) <;> (replace h := zB h) <;> (try (exfalso; first | exact h | omega))) | refine zbt ?_ | apply V.regK | refine zvd ?_ | refine zve ?_ | (refine zvf (fun h => ?_) (fun h => ?_) <;> (replace h := zB h) <;> (try (exfalso; first | exact h | omega))) | (refine zfc Tryz.results180 ?_; (try dsimp only)))
  apply V.lpS [0, 3, 4, 5, 6, 7, 8, 9, 10, 11, 12, 13] (fun k xs H2 => ∃ (m : Nat) (y : AV) (g : _) (pre : List Int), xs = .v (.int .u64 m) :: y :: g ∧ k = m ∧ m ≤ n ∧ ub n = pre ++ ub m ∧ pre.length + m ≤ n ∧ Ext H' H2 ∧ OwS H2 H'.next 5 1 y (bytesL pre)) n
  focus (intro xs; simp only [putMany, set2, Nat.reduceAdd, Nat.reduceDiv, Nat.reduceMod, nth_zero, nth_succ, List.set_cons_zero, List.set_cons_succ]; rfl)
  focus (first | rfl | simp only [readMany, nth_zero, nth_succ, Nat.reduceDiv, Nat.reduceMod])
  · exact ⟨n, _, _, [], rfl, rfl, Nat.le_refl _, rfl, by simp, Ext.refl _, OwS.nil _ _ _ _⟩
  · rintro k xs H2 ⟨m, y, g, pre, rfl, hkm, hm, hub, hpl, hx, ho⟩
    have hkm := hkm.symm
    subst hkm
    have hn2 := hx.next
    by_cases hlt : m < 128
    · rw [ub_lt hlt] at hub
      obtain ⟨y', H3, tr3, hap, ho', hnx, hfr, hnm⟩ := ho.push1 (ELo oc) lo' app_byte (by omega) (by omega) (by rw [bytesL_len]; unfold roomMax; omega) [.v (.int .u8 (m : Int))]
      have hw : IntKind.u8.wrap (m : Int) = (m : Int) := by rw [wrap_u8m]; omega
      rw [show bytesL pre ++ [[.v (.int .u8 (m : Int))]] = bytesL (ub n) by rw [hub, bytesL_append]; rfl] at ho'
      repeat' (first | refine zka ?_ | refine zkb ?_ | (apply RKp.op; ((try simp (disch := (first | exact zQ | fail)) only [hw, hap, go_sem]); exact zL); rfl) | refine zkc ?_ | refine zz ?_ | refine zkd ?_ | refine zke ?_ | refine zkf ?_ | (refine RKg.split (fun h => ?_) (fun h => ?_) <;> (try rw [h]) <;> (replace h := zB h) <;> (try (exfalso; first | exact h | omega))) | refine zbt ?_ | apply V.regK | refine zvd ?_ | refine zve ?_ | (refine zvf (fun h => ?_) (fun h => ?_) <;> (replace h := zB h) <;> (try (exfalso; first | exact h | omega))) | (refine zfc Tryz.results180 ?_; (try dsimp only)))
      all_goals first
        | (exfalso; omega)
        | skip
      obtain ⟨k, e, rfl, hkb, hkl, hget⟩ : ∃ k e, y' = .os k e 0 (bytesL (ub n)).length ∧ H'.next ≤ k ∧ k < H3.next ∧ H3.get k = some ⟨5, 1, e, bytesL (ub n), none⟩ := by
        rcases ho' with ⟨z, _⟩ | ⟨k, e, z1, z2, z3, z4⟩
        · have h9 := congrArg List.length z
          rw [bytesL_len, List.length_nil] at h9
          have := ub_pos n
          omega
        · exact ⟨k, e, z1, z2, z3, z4⟩
      rw [bytesL_len]
      exact hands_os (lo := lo') (off := 0) (len := (ub n).length) (b := ⟨5, 1, e, bytesL (ub n), none⟩) (by omega) hget rfl (flat_bytes _)
    · obtain ⟨y', H3, tr3, hap, ho', hnx, hfr, hnm⟩ := ho.push1 (ELo oc) lo' app_byte (by omega) (by omega) (by rw [bytesL_len]; unfold roomMax; omega) [.v (.int .u8 ((m % 128 + 128 : Nat) : Int))]
      have hx3 : Ext H' H3 := ⟨by omega, fun k hk => by rw [hfr k (by omega) (fun z => by have := ho.nm z; omega), hx.get k hk]⟩
      have hw : orI .u8 (IntKind.u8.wrap (m : Int)) 128 = ((m % 128 + 128 : Nat) : Int) := by rw [wrap_u8m, or128 _ (by omega)]; omega
      have hs : shrI .u64 (m : Int) 7 = ((m / 128 : Nat) : Int) := by rw [shr7 _ (by omega)]; omega
      rw [ub_ge hlt] at hub
      rw [show bytesL pre ++ [[.v (.int .u8 ((m % 128 + 128 : Nat) : Int))]] = bytesL (pre ++ [((m % 128 + 128 : Nat) : Int)]) by rw [bytesL_append]; rfl] at ho'
      repeat' (first | refine zka ?_ | refine zkb ?_ | (apply RKp.op; ((try simp (disch := (first | exact zQ | fail)) only [bin_or, bin_shr, hw, hs, hap, go_sem]); exact zL); rfl) | refine zkc ?_ | refine zz ?_ | refine zkd ?_ | refine zke ?_ | refine zkf ?_ | (refine RKg.split (fun h => ?_) (fun h => ?_) <;> (try rw [h]) <;> (replace h := zB h) <;> (try (exfalso; first | exact h | omega))) | refine zbt ?_ | apply V.regK | refine zvd ?_ | refine zve ?_ | (refine zvf (fun h => ?_) (fun h => ?_) <;> (replace h := zB h) <;> (try (exfalso; first | exact h | omega))) | (refine zfc Tryz.results180 ?_; (try dsimp only)))
      all_goals first
        | (exfalso; omega)
        | skip
      exact LoopS.again (m / 128) (by rfl) (by omega) ⟨m / 128, y', _, pre ++ [((m % 128 + 128 : Nat) : Int)], rfl, rfl, by omega, by rw [hub, List.append_assoc]; rfl, by rw [List.length_append, List.length_singleton]; omega, hx3, ho'⟩
end
end Go.Am

namespace Go.Am
variable {oc : Orc} [OrcI oc]
open Go.Proofs
set_option maxRecDepth 8000
set_option maxHeartbeats 1000000
theorem getMemK {α : Type} {l : List α} {i : Nat} (d : α) (h : i < l.length) : l.getD i d ∈ l := by
  rw [List.getD_eq_getElem?_getD, List.getElem?_eq_getElem h]; exact List.getElem_mem h
def noRun : Int × Ce := (0, zeroC)
def runS (acc : List (Int × Ce)) (c : Ce) : List (Int × Ce) :=
  if 0 < acc.length ∧ (acc.getD (acc.length - 1) noRun).2 = c then acc.set (acc.length - 1) ((acc.getD (acc.length - 1) noRun).1 + 1, c) else acc ++ [(1, c)]

/-- Alike cells. -/
def runsL (l : List Ce) : List (Int × Ce) := l.foldl runS []
def flatR (rs : List (Int × Ce)) : List Ce := rs.flatMap fun x => List.replicate x.1.toNat x.2
theorem flatR_app (a b : List (Int × Ce)) : flatR (a ++ b) = flatR a ++ flatR b := List.flatMap_append
theorem getDLast {α : Type} (l : List α) (x d : α) : (l ++ [x]).getD ((l ++ [x]).length - 1) d = x := by
  rw [List.getD_eq_getElem?_getD, List.length_append, List.length_singleton, Nat.add_sub_cancel, List.getElem?_append_right (Nat.le_refl _), Nat.sub_self]; rfl
theorem setLast {α : Type} (l : List α) (x y : α) : (l ++ [x]).set ((l ++ [x]).length - 1) y = l ++ [y] := by
  rw [List.length_append, List.length_singleton, Nat.add_sub_cancel, List.set_append_right _ _ (Nat.le_refl _), Nat.sub_self]; rfl
theorem runS_eq (a : List (Int × Ce)) (n : Int) (c : Ce) : runS (a ++ [(n, c)]) c = a ++ [(n + 1, c)] := by
  unfold runS
  rw [getDLast, setLast, if_pos ⟨by simp, rfl⟩]
theorem runS_ne {a : List (Int × Ce)} {c : Ce} (h : a = [] ∨ (a.getD (a.length - 1) noRun).2 ≠ c) : runS a c = a ++ [(1, c)] := by
  unfold runS
  rw [if_neg]
  rintro ⟨h1, h2⟩
  rcases h with h | h
  · subst h; simp at h1
  · exact h h2
theorem last_cases {α : Type} (l : List α) : l = [] ∨ ∃ a x, l = a ++ [x] := by
  induction l with
  | nil => exact .inl rfl
  | cons y l ih =>
    right
    rcases ih with rfl | ⟨a, x, rfl⟩
    · exact ⟨[], y, rfl⟩
    · exact ⟨y :: a, x, rfl⟩
structure RunsG (rs : List (Int × Ce)) (l : List Ce) : Prop where
  flat : flatR rs = l
  len : rs.length ≤ l.length
  pos : ∀ x ∈ rs, 1 ≤ x.1 ∧ x.1 ≤ l.length
  mem : ∀ x ∈ rs, x.2 ∈ l
theorem RunsG.nil : RunsG [] [] := ⟨rfl, Nat.le_refl _, fun x h => (by cases h), fun x h => (by cases h)⟩
theorem RunsG.step {rs : List (Int × Ce)} {l : List Ce} (h : RunsG rs l) (c : Ce) : RunsG (runS rs c) (l ++ [c]) := by
  have h1 : ∀ x ∈ rs, 1 ≤ x.1 ∧ x.1 ≤ ((l ++ [c]).length : Nat) := fun x hx => by have := h.pos x hx; rw [List.length_append]; simp; omega
  have h2 : ∀ x ∈ rs, x.2 ∈ l ++ [c] := fun x hx => List.mem_append_left _ (h.mem x hx)
  have key : runS rs c = rs ++ [(1, c)] → RunsG (runS rs c) (l ++ [c]) := fun e => by
    rw [e]
    refine ⟨by rw [flatR_app, h.flat]; rfl, by have := h.len; simp; omega, fun x hx => ?_, fun x hx => ?_⟩
    · rcases List.mem_append.1 hx with hx | hx
      · exact h1 x hx
      · rw [List.mem_singleton.1 hx]; simp; omega
    · rcases List.mem_append.1 hx with hx | hx
      · exact h2 x hx
      · rw [List.mem_singleton.1 hx]; simp
  rcases last_cases rs with e | ⟨a, ⟨n, d⟩, rfl⟩
  · exact key (runS_ne (.inl e))
  · by_cases e : d = c
    · subst e
      have hn := h.pos (n, d) (by simp)
      have hf := h.flat
      rw [flatR_app] at hf
      rw [runS_eq]
      refine ⟨?_, by have := h.len; simp at this ⊢; omega, fun x hx => ?_, fun x hx => ?_⟩
      · rw [flatR_app, ← hf, List.append_assoc]
        congr 1
        show List.replicate (n + 1).toNat d ++ [] = (List.replicate n.toNat d ++ []) ++ [d]
        rw [List.append_nil, List.append_nil, show (n + 1).toNat = n.toNat + 1 by omega, List.replicate_succ']
      · rcases List.mem_append.1 hx with hx | hx
        · exact h1 x (List.mem_append_left _ hx)
        · rw [List.mem_singleton.1 hx]; simp at hn ⊢; omega
      · rcases List.mem_append.1 hx with hx | hx
        · exact h2 x (List.mem_append_left _ hx)
        · rw [List.mem_singleton.1 hx]; simp
    · refine key (runS_ne (.inr ?_))
      rw [getDLast]; exact e
theorem runsL_snoc (l : List Ce) (c : Ce) : runsL (l ++ [c]) = runS (runsL l) c := by simp [runsL]
theorem runsL_G (l : List Ce) : RunsG (runsL l) l := by
  have : ∀ n, n ≤ l.length → RunsG (runsL (l.take n)) (l.take n) := by
    intro n
    induction n with
    | zero => intro _; exact RunsG.nil
    | succ n ih =>
      intro hn
      rw [List.take_succ_eq_append_getElem (by omega), runsL_snoc]
      exact (ih (by omega)).step _
  have h := this l.length (Nat.le_refl _)
  rwa [List.take_length] at h

/-- A run's numbers. -/
def numsR (x : Int × Ce) : List Int := [x.1, x.2.r, x.2.w, x.2.a]
def ubs (l : List Int) : List Int := l.flatMap fun n => ub n.toNat
theorem ubs_app (a b : List Int) : ubs (a ++ b) = ubs a ++ ubs b := List.flatMap_append
theorem ubs_snoc (a : List Int) (n : Int) : ubs (a ++ [n]) = ubs a ++ ub n.toNat := by rw [ubs_app]; show _ ++ (ub n.toNat ++ []) = _; rw [List.append_nil]
def headR (l : List Ce) (w : Bool) : Int := 2 * (runsL l).length + if w then 1 else 0
def pkB (l : List Ce) (w : Bool) : List Int := ub (headR l w).toNat ++ (runsL l).flatMap fun x => ubs (numsR x)
theorem ub_byte (n : Nat) : ∀ x ∈ ub n, 0 ≤ x ∧ x ≤ 255 := by
  induction n using Nat.strongRecOn with
  | _ n ih =>
    intro x hx
    by_cases h : n < 128
    · rw [ub_lt h, List.mem_singleton] at hx; subst hx; omega
    · rw [ub_ge h] at hx
      rcases List.mem_cons.1 hx with rfl | hx
      · omega
      · exact ih (n / 128) (by omega) x hx
theorem ubs_len (l : List Int) (h : ∀ n ∈ l, 0 ≤ n ∧ n < 2 ^ 35) : (ubs l).length ≤ 5 * l.length := by
  induction l with
  | nil => exact Nat.le_refl _
  | cons n l ih =>
    have h1 := h n List.mem_cons_self
    have h2 := ih fun x hx => h x (List.mem_cons_of_mem _ hx)
    have h3 := ub_len 4 n.toNat (by omega)
    show (ub n.toNat ++ ubs l).length ≤ _
    rw [List.length_append, List.length_cons]; omega
end Go.Am

namespace Go.Am
variable {oc : Orc} [OrcI oc]
open Go.Proofs
set_option maxRecDepth 8000
set_option maxHeartbeats 8000000
def rnA (x : Int × Ce) : List AV := [.v (.int .i64 x.1), .v (.int .i32 x.2.r), .v (.int .i64 x.2.w), .v (.int .i64 x.2.a)]
def rnsA (l : List (Int × Ce)) : List (List AV) := l.map rnA
theorem rnsA_len (l : List (Int × Ce)) : (rnsA l).length = l.length := List.length_map _
theorem nth_rnsA (l : List (Int × Ce)) (i : Nat) (h : i < l.length) : nth [] (rnsA l) i = rnA (l.getD i noRun) := nth_map _ l i noRun h
theorem rnsA_app (a b : List (Int × Ce)) : rnsA (a ++ b) = rnsA a ++ rnsA b := List.map_append
theorem rnsA_set (l : List (Int × Ce)) (i : Nat) (x : Int × Ce) : (rnsA l).set i (rnA x) = rnsA (l.set i x) := by unfold rnsA; rw [List.map_set]
theorem flat_rns (l : List (Int × Ce)) : FlatE (rnsA l) := FlatE.map (fun c x hx => by unfold rnA at hx; simp at hx; rcases hx with rfl | rfl | rfl | rfl <;> rfl) l
theorem app_run : appInfo (ELo oc).P 202 = some (206, 32, 4) := by kernel_rfl
theorem take_snoc {α : Type} (l : List α) (d : α) {i : Nat} (h : i < l.length) : l.take (i + 1) = l.take i ++ [l.getD i d] := by
  rw [List.take_succ_eq_append_getElem h, List.getD_eq_getElem?_getD, List.getElem?_eq_getElem h]; rfl
theorem ub_len6 (n : Nat) (h : n < 2 ^ 40) : (ub n).length ≤ 6 := ub_len 5 n (by omega)
section
variable {ys : List (Nat × LRec)} {lo : Nat} {H : AHeap} {A B : AV} {l : List Ce} {wr : Bool}
theorem runs_run (hA : SlH H 3 A (cesA l)) (h0 : l ≠ []) (hl : l.length < 2 ^ 30) : CallRo (ELo oc) ys lo 179 [rowA A wr] H (.sl 4 (rnsA (runsL l))) := by
  refine WC.pureR rfl fun lo' H' hh => ?_
  have hA' := (hA.two (.inr ⟨[A, .v (.bool wr)], .inl (by simp)⟩) hh)
  have hlo := lo_two hh
  have hcA := cells_SlH hA'
  refine zvin Tryz.func179 Tryz.ntmps179 ?_
  repeat' (first | refine zka ?_ | refine zkb ?_ | (apply RKp.op; ((try simp (disch := (first | exact zQ | fail)) only [len_cellX lo' hA', ix_cellX lo' hA', ld_cellX lo' hA', fa_cellX lo' hA', lf_wX lo' hA', lf_aX lo' hA', lf_rX lo' hA', sl_hiX lo' hA', sl_loX lo' hA', sl_lohiX lo' hA', hcA, go_sem]); exact zL); rfl) | refine zkc ?_ | refine zz ?_ | refine zkd ?_ | refine zke ?_ | refine zkf ?_ | (refine RKg.split (fun h => ?_) (fun h => ?_) <;> (try rw [h]) <;> (replace h := zB h) <;> (try (exfalso; first | exact h | omega))) | refine zbt ?_ | apply V.regK | refine zva ?_ | refine zvb ?_ | refine zgc ?_ | refine zvd ?_ | refine zve ?_ | (refine zvf (fun h => ?_) (fun h => ?_) <;> (replace h := zB h) <;> (try (exfalso; first | exact h | omega))) | (refine zfc Tryz.results179 ?_; (try dsimp only)))
  apply V.lpS [9, 3, 5, 10, 11, 12, 13, 14, 15, 16, 17, 18, 19, 20, 21, 22, 23, 24, 25, 26, 27, 28, 29, 30, 31, 32, 33, 34, 35, 36, 37, 38, 39, 40, 41, 42] (fun k xs H2 => ∃ (i : Nat) (x : AV) (g : _), xs = .v (.int .i64 i) :: x :: g ∧ k = l.length - i ∧ i ≤ l.length ∧ Ext H' H2 ∧ OwS H2 H'.next 206 4 x (rnsA (runsL (l.take i))) ∧ (runsL (l.take i) = [] → x = nilA)) l.length
  focus (intro xs; simp only [putMany, set2, Nat.reduceAdd, Nat.reduceDiv, Nat.reduceMod, nth_zero, nth_succ, List.set_cons_zero, List.set_cons_succ]; rfl)
  focus (first | rfl | simp only [readMany, nth_zero, nth_succ, Nat.reduceDiv, Nat.reduceMod])
  · exact ⟨0, _, _, rfl, rfl, Nat.zero_le _, (Ext.refl _).push _, OwS.nil _ _ _ _, fun _ => rfl⟩
  · rintro k xs H2 ⟨i, x, g, rfl, rfl, hi, hx, ho, hnil⟩
    have hn2 := hx.next
    have hG := runsL_G (l.take i)
    have hgl := hG.len
    rw [List.length_take] at hgl
    have hG' := hG.pos
    by_cases hlt : i < l.length
    · have hsn : runsL (l.take (i + 1)) = runS (runsL (l.take i)) (l.getD i zeroC) := by rw [take_snoc l zeroC hlt, runsL_snoc]
      generalize hrs : runsL (l.take i) = rs at *
      generalize hce : l.getD i zeroC = c at *
      have hx2 : Ext H' (H2.push ⟨52, 3, 0, [ceA c], none⟩) := hx.push _
      obtain ⟨y', H3, tr3, hap, ho', hnx, hfr, hnm⟩ := (ho.push ⟨52, 3, 0, [ceA c], none⟩).push1 (ELo oc) lo' app_run (by omega) (by (first | omega | (simp only [next_push, next_set, next_empty]; done) | (simp only [next_push, next_set, next_empty]; omega))) (by rw [rnsA_len]; unfold roomMax; omega) (rnA (1, c))
      have hx3 : Ext H' H3 := ⟨by rw [next_push] at hnx; omega, fun k hk => by rw [hfr k (by (first | omega | (simp only [next_push, next_set, next_empty]; done) | (simp only [next_push, next_set, next_empty]; omega))) (fun z => by have := ho.nm z; omega), hx2.get k hk]⟩
      unfold ceA rnA at hap
      rw [next_push] at hap hnx
      have e1 : rnsA rs ++ [rnA (1, c)] = rnsA (rs ++ [(1, c)]) := by rw [rnsA_app]; rfl
      rw [e1] at ho'
      rcases last_cases rs with e0 | ⟨a, ⟨n, d⟩, e0⟩
      · subst e0
        rw [runS_ne (.inl rfl)] at hsn
        obtain rfl := hnil rfl
        repeat' (first | refine zka ?_ | refine zkb ?_ | (apply RKp.op; ((try simp (disch := (first | exact zQ | fail)) only [len_cellX lo' hA', ix_cellX lo' hA', ld_cellX lo' hA', fa_cellX lo' hA', lf_wX lo' hA', lf_aX lo' hA', lf_rX lo' hA', sl_hiX lo' hA', sl_loX lo' hA', sl_lohiX lo' hA', hce, hap, Int.toNat_natCast, go_sem]); exact zL); rfl) | refine zkc ?_ | refine zz ?_ | refine zkd ?_ | refine zke ?_ | refine zkf ?_ | (refine RKg.split (fun h => ?_) (fun h => ?_) <;> (try rw [h]) <;> (replace h := zB h) <;> (try (exfalso; first | exact h | omega))) | refine zbt ?_ | apply V.regK | refine zva ?_ | refine zvb ?_ | refine zgc ?_ | refine zvd ?_ | refine zve ?_ | (refine zvf (fun h => ?_) (fun h => ?_) <;> (replace h := zB h) <;> (try (exfalso; first | exact h | omega))) | (refine zfc Tryz.results179 ?_; (try dsimp only)))
        refine LoopS.again (l.length - (i + 1)) (by rfl) (by omega) ⟨i + 1, y', _, rfl, rfl, by omega, hx3, by rw [hsn]; exact ho', fun z => ?_⟩
        rw [hsn] at z; simp at z
      · obtain ⟨k, e, rfl, hbn, hln, hget⟩ : ∃ k e, x = .os k e 0 (a.length + 1) ∧ H'.next ≤ k ∧ k < H2.next ∧ H2.get k = some ⟨206, 4, e, rnsA rs, none⟩ := by
          have hlr : rs.length = a.length + 1 := by rw [e0, List.length_append]; rfl
          rcases ho with ⟨z, _⟩ | ⟨k, e, z1, z2, z3, z4⟩
          · have h9 := congrArg List.length z
            rw [rnsA_len, List.length_nil] at h9
            omega
          · rw [rnsA_len, hlr] at z1
            exact ⟨k, e, z1, z2, z3, z4⟩
        have hgp : ∀ b, (H2.push b).get k = some ⟨206, 4, e, rnsA rs, none⟩ := fun b => by rw [get_push, if_neg (by omega)]; exact hget
        have hl1 : (rnsA rs).length = a.length + 1 := by rw [rnsA_len, e0, List.length_append]; rfl
        have hrl : rs.length = a.length + 1 := by rw [← rnsA_len]; exact hl1
        have htk : (rnsA rs).take (a.length + 1) = rnsA rs := by rw [List.take_of_length_le (by omega)]
        have hix : IntKind.i64.wrap (((a.length + 1 : Nat) : Int) - 1) = (a.length : Int) := by rw [IntWalk.i64_in _ (by omega)]; omega
        have hnth : nth [] (rnsA rs) a.length = [.v (.int .i64 n), .v (.int .i32 d.r), .v (.int .i64 d.w), .v (.int .i64 d.a)] := by
          rw [nth_rnsA _ _ (by omega), e0]
          have := getDLast a (n, d) noRun
          rw [List.length_append, List.length_singleton, Nat.add_sub_cancel] at this
          rw [this]; rfl
        have hnp := hG' (n, d) (by rw [e0]; simp)
        have hnp2 : 1 ≤ n ∧ n ≤ l.length := by
          refine ⟨hnp.1, ?_⟩
          have := hnp.2
          rw [List.length_take] at this; simp only at this; omega
        have hst : (rnsA rs).set a.length [.v (.int .i64 (n + 1)), .v (.int .i32 d.r), .v (.int .i64 d.w), .v (.int .i64 d.a)] = rnsA (a ++ [(n + 1, d)]) := by
          have := rnsA_set rs a.length (n + 1, d)
          rw [e0] at this
          have h9 := setLast a (n, d) (n + 1, d)
          rw [List.length_append, List.length_singleton, Nat.add_sub_cancel] at h9
          rw [h9] at this
          rw [e0]; exact this
        repeat' (first | refine zka ?_ | refine zkb ?_ | (apply RKp.op; ((try simp (disch := (first | exact zQ | fail)) only [len_cellX lo' hA', ix_cellX lo' hA', ld_cellX lo' hA', fa_cellX lo' hA', lf_wX lo' hA', lf_aX lo' hA', lf_rX lo' hA', sl_hiX lo' hA', sl_loX lo' hA', sl_lohiX lo' hA', hce, hgp, hget, hl1, htk, hix, hnth, eqC0, Int.toNat_natCast, hap, go_sem]); exact zL); rfl) | refine zkc ?_ | refine zz ?_ | refine zkd ?_ | refine zke ?_ | refine zkf ?_ | (refine RKg.split (fun h => ?_) (fun h => ?_) <;> (try rw [h]) <;> (replace h := zB h) <;> (try (exfalso; first | exact h | omega))) | refine zbt ?_ | apply V.regK | refine zva ?_ | refine zvb ?_ | refine zgc ?_ | refine zvd ?_ | refine zve ?_ | (refine zvf (fun h => ?_) (fun h => ?_) <;> (replace h := zB h) <;> (try (exfalso; first | exact h | omega))) | (refine zfc Tryz.results179 ?_; (try dsimp only)))
        · have hcd : d = c := Ce.eqv.2 h
          have hs2 : runS rs c = a ++ [(n + 1, d)] := by rw [e0, ← hcd]; exact runS_eq a n d
          rw [hst]
          refine LoopS.again (l.length - (i + 1)) (by rfl) (by omega) ⟨i + 1, .os k e 0 (a.length + 1), _, rfl, rfl, by omega, (hx.set hbn _).push _, .inr ⟨k, e, by rw [hsn, hs2, rnsA_len, List.length_append]; rfl, hbn, by (first | omega | (simp only [next_push, next_set, next_empty]; done) | (simp only [next_push, next_set, next_empty]; omega)), by rw [hsn, hs2, get_push, if_neg (by (first | omega | (simp only [next_push, next_set, next_empty]; done) | (simp only [next_push, next_set, next_empty]; omega))), get_set, if_pos rfl]⟩, fun z => ?_⟩
          rw [hsn, hs2] at z; simp at z
        · have hcd : ¬ d = c := fun z => h (Ce.eqv.1 z)
          have hs2 : runS rs c = rs ++ [(1, c)] := runS_ne (.inr (by rw [e0, getDLast]; exact hcd))
          refine LoopS.again (l.length - (i + 1)) (by rfl) (by omega) ⟨i + 1, y', _, rfl, rfl, by omega, hx3, by rw [hsn, hs2]; exact ho', fun z => ?_⟩
          rw [hsn, hs2] at z; simp at z
    · have e : i = l.length := by omega
      subst e
      rw [List.take_length] at ho
      repeat' (first | refine zka ?_ | refine zkb ?_ | (apply RKp.op; ((try simp (disch := (first | exact zQ | fail)) only [go_sem]); exact zL); rfl) | refine zkc ?_ | refine zz ?_ | refine zkd ?_ | refine zke ?_ | refine zkf ?_ | (refine RKg.split (fun h => ?_) (fun h => ?_) <;> (try rw [h]) <;> (replace h := zB h) <;> (try (exfalso; first | exact h | omega))) | refine zbt ?_ | apply V.regK | refine zva ?_ | refine zvb ?_ | refine zgc ?_ | refine zvd ?_ | refine zve ?_ | (refine zvf (fun h => ?_) (fun h => ?_) <;> (replace h := zB h) <;> (try (exfalso; first | exact h | omega))) | (refine zfc Tryz.results179 ?_; (try dsimp only)))
      have hne : runsL l ≠ [] := fun z => by
        have := (runsL_G l).flat
        rw [z] at this
        exact h0 this.symm
      rcases ho with ⟨z, _⟩ | ⟨k, e, rfl, z2, z3, z4⟩
      · exact absurd (by simpa [rnsA] using z) hne
      · rw [frzR_os H2 lo' (by omega) z4 rfl rfl (by simp) (show 0 < 4 by decide) (flat_rns _)]
        simp
theorem Uint_I (z : Int) (h0 : 0 ≤ z) (h1 : z < 1099511627776) : CallN (ELo oc) ys lo 180 [.v (.int .u64 z)] H (.os H.next 0 0 (ub z.toNat).length) (H.push (ubBlk z.toNat)) := by
  have := Uint_run (ys := ys) (lo := lo) (H := H) z.toNat (by omega)
  rw [Int.toNat_of_nonneg h0] at this
  exact this
theorem mayC_bd {r w a : Int} (h : mayC r w a) : (0 ≤ r ∧ r ≤ 1114111) ∧ (0 ≤ w ∧ w ≤ 2) ∧ 0 ≤ a ∧ a ≤ 255 := by
  obtain ⟨h1, h | h | h⟩ := h
  · omega
  · omega
  · have : 0 ≤ r ∧ r ≤ 1114111 := by
      obtain ⟨h2, h3⟩ := h
      apply Classical.byContradiction
      intro hn
      have : widthI r = 0 := by
        unfold widthI
        rw [if_pos]
        unfold noneB
        rw [decide_eq_true_eq]; omega
      omega
    omega
theorem rowG_mem {l : List Ce} (h : rowG l) (c : Ce) (hc : c ∈ l) : mayC c.r c.w c.a := by
  obtain ⟨i, hi, rfl⟩ := List.mem_iff_getElem.1 hc
  have := (h.2 i hi).1
  rw [List.getD_eq_getElem?_getD, List.getElem?_eq_getElem hi] at this
  exact this
theorem numsR_bd {l : List Ce} (h : rowG l) (x : Int × Ce) (hx : x ∈ runsL l) : ∀ n ∈ numsR x, 0 ≤ n ∧ n ≤ 2147483647 := by
  have hG := runsL_G l
  have h1 := hG.pos x hx
  have h2 := mayC_bd (rowG_mem h x.2 (hG.mem x hx))
  have h4 := h.1
  intro n hn
  simp only [numsR, List.mem_cons, List.not_mem_nil, or_false] at hn
  omega
def rnB (rs : List (Int × Ce)) : List Int := rs.flatMap fun x => ubs (numsR x)
theorem rnB_snoc (rs : List (Int × Ce)) (x : Int × Ce) : rnB (rs ++ [x]) = rnB rs ++ ubs (numsR x) := by simp [rnB]
theorem rnB_len {rs : List (Int × Ce)} (h : ∀ x ∈ rs, ∀ n ∈ numsR x, 0 ≤ n ∧ n ≤ 2147483647) : (rnB rs).length ≤ 20 * rs.length := by
  induction rs with
  | nil => exact Nat.le_refl _
  | cons x rs ih =>
    have h1 := ubs_len (numsR x) fun n hn => by have := h x List.mem_cons_self n hn; omega
    have h2 := ih fun y hy => h y (List.mem_cons_of_mem _ hy)
    show (ubs (numsR x) ++ rnB rs).length ≤ _
    rw [List.length_append, List.length_cons]
    have h3 : (numsR x).length = 4 := rfl
    rw [h3] at h1
    omega
theorem Put_run (hA : SlH H 3 A (cesA l)) (hg : rowG l) (h0 : l ≠ []) : CallRo (ELo oc) ys lo 161 [rowA A wr] H (.tup [.sl 1 (bytesL (pkB l wr)), .v (.bool true)]) := by
  refine WC.pureR rfl fun lo' H' hh => ?_
  have hA' := (hA.two (.inr ⟨[A, .v (.bool wr)], .inl (by simp)⟩) hh)
  have hlo := lo_two hh
  have hcA := cells_SlH hA'
  have hl := hg.1
  have hG := runsL_G l
  have hM : ∀ ys G (x : Ext H' G), CallRo (ELo oc) ys lo' 106 [rowA A wr] G (.v (.bool true)) := fun ys G x => by
    have := May_R (ys := ys) (lo := lo') (wr := wr) (hA'.ext x) (by omega)
    rw [decide_eq_true hg] at this; exact this
  have hR := fun ys G (x : Ext H' G) => runs_run (ys := ys) (lo := lo') (wr := wr) (hA'.ext x) h0 (by omega)
  have hU := fun ys G z a b => Uint_I (ys := ys) (lo := lo') (H := G) z a b
  have hgl := hG.len
  have hnb := numsR_bd hg
  have hhd : 0 ≤ headR l wr ∧ headR l wr ≤ 601 := by unfold headR; split <;> omega
  have hpk : pkB l wr = ub (headR l wr).toNat ++ rnB (runsL l) := rfl
  generalize hrs : runsL l = rs at *
  have hhr : headR l wr = 2 * (rs.length : Int) + if wr = true then 1 else 0 := by unfold headR; rw [hrs]
  obtain ⟨hd, hdd⟩ : ∃ hd, hd = ub (headR l wr).toNat := ⟨_, rfl⟩
  have hdl := ub_len6 (headR l wr).toNat (by omega)
  have hdp := ub_pos (headR l wr).toNat
  rw [← hdd] at hpk hdl hdp
  cases wr
  all_goals
    simp only [if_true, reduceCtorEq, if_false, Int.add_zero, Bool.false_eq_true] at hhr
    rw [hhr] at hdd
    refine zvin Tryz.func161 Tryz.ntmps161 ?_
    repeat' (first | refine zka ?_ | refine zkb ?_ | (apply RKp.op; ((try simp (disch := (first | exact zQ | fail)) only [hcA, rnsA_len, wrap_u64', go_sem]); exact zL); rfl) | (apply RKp.callR; ((first | apply hM | apply hR) <;> (exact zD)); rfl; intro tr htr) | (apply RKp.callN; (apply hU <;> (exact zD)); rfl; intro tr htr) | refine zkc ?_ | refine zz ?_ | refine zkd ?_ | refine zke ?_ | refine zkf ?_ | (refine RKg.split (fun h => ?_) (fun h => ?_) <;> (try rw [h]) <;> (replace h := zB h) <;> (try (exfalso; first | exact h | omega))) | refine zbt ?_ | apply V.regK | refine zvd ?_ | refine zve ?_ | (refine zvf (fun h => ?_) (fun h => ?_) <;> (replace h := zB h) <;> (try (exfalso; first | exact h | omega))) | (refine zfd Tryz.results161 ?_; (try dsimp only)))
    apply V.lpS [28, 6, 8, 10, 29, 30, 31, 32, 33, 34, 35, 36, 37, 38, 39, 40, 41, 42, 43, 44, 45, 46, 47, 48, 49, 50, 51, 52, 53, 54, 55, 56] (fun k xs H2 => ∃ (i : Nat) (x : AV) (g : _), xs = .v (.int .i64 i) :: x :: g ∧ k = rs.length - i ∧ i ≤ rs.length ∧ Ext H' H2 ∧ OwS H2 H'.next 5 1 x (bytesL (hd ++ rnB (rs.take i)))) rs.length
    focus (intro xs; simp only [putMany, set2, Nat.reduceAdd, Nat.reduceDiv, Nat.reduceMod, nth_zero, nth_succ, List.set_cons_zero, List.set_cons_succ]; rfl)
    focus (first | rfl | simp only [readMany, nth_zero, nth_succ, Nat.reduceDiv, Nat.reduceMod])
    · refine ⟨0, _, _, rfl, rfl, Nat.zero_le _, ((Ext.refl _).push _).push _, ?_⟩
      have e0 : hd ++ rnB (rs.take 0) = hd := by simp [rnB]
      rw [e0]
      exact .inr ⟨H'.next + 1, 0, by rw [bytesL_len, hdd]; rfl, by omega, by (first | omega | (simp only [next_push, next_set, next_empty]; done) | (simp only [next_push, next_set, next_empty]; omega)), by rw [get_push, if_pos (by (first | omega | (simp only [next_push, next_set, next_empty]; done) | (simp only [next_push, next_set, next_empty]; omega))), hdd]⟩
    · rintro k xs H2 ⟨i, x, g, rfl, rfl, hi, hx, ho⟩
      have hn2 := hx.next
      by_cases hlt : i < rs.length
      · have htk := take_snoc rs noRun hlt
        have hmem := getMemK noRun hlt
        have hnbx := hnb _ hmem
        have ixN : ∀ G, primL lo' G (indexAddrA (ELo oc) 202 (.sl 4 (rnsA rs)) (.v (.int .i64 (i : Int)))) = some (.fp (rnA (rs.getD i noRun)), G, ⟨0, 0, 0⟩) := fun G => by
          rw [index_SlH (ELo oc) lo' 202 .i64 (i : Int) (.inl (.inl rfl) : SlH G 4 (.sl 4 (rnsA rs)) (rnsA rs)) (by kernel_rfl) (by omega) (by rw [rnsA_len]; omega), Int.toNat_natCast]
          show some (AV.fp (nth [] (rnsA rs) i), G, _) = _
          rw [nth_rnsA rs i hlt]; rfl
        have hrt := rnB_len (rs := rs.take i) fun y hy => hnb y (List.mem_of_mem_take hy)
        rw [List.length_take, Nat.min_eq_left hi] at hrt
        have hrs2 : rnB (rs.take (i + 1)) = rnB (rs.take i) ++ ubs (numsR (rs.getD i noRun)) := by rw [htk, rnB_snoc]
        generalize rs.getD i noRun = y at *
        have q1 := hnbx y.1 (by simp [numsR])
        have q2 := hnbx y.2.r (by simp [numsR])
        have q3 := hnbx y.2.w (by simp [numsR])
        have q4 := hnbx y.2.a (by simp [numsR])
        unfold rnA at ixN
        repeat' (first | refine zka ?_ | refine zkb ?_ | (apply RKp.op; ((try simp (disch := (first | exact zQ | fail)) only [ixN, go_sem]); exact zL); rfl) | refine zkc ?_ | refine zz ?_ | refine zkd ?_ | refine zke ?_ | refine zkf ?_ | (refine RKg.split (fun h => ?_) (fun h => ?_) <;> (try rw [h]) <;> (replace h := zB h) <;> (try (exfalso; first | exact h | omega))) | refine zbt ?_ | apply V.regK | refine zvd ?_ | refine zve ?_ | (refine zvf (fun h => ?_) (fun h => ?_) <;> (replace h := zB h) <;> (try (exfalso; first | exact h | omega))) | (refine zfd Tryz.results161 ?_; (try dsimp only)))
        have hN : ∀ (H3 : AHeap) (b b' : Blk), H3 = (H2.push b).push b' → b' = ⟨3, 1, 0, ints (numsR y), none⟩ → H3.get (H2.next + 1) = some ⟨3, 1, 0, ints (numsR y), none⟩ ∧ Ext H' H3 ∧ H2.next + 1 < H3.next ∧ OwS H3 H'.next 5 1 x (bytesL (hd ++ rnB (rs.take i))) := fun H3 b b' e1 e2 => by
          subst e1 e2
          exact ⟨by rw [get_push, if_pos (by (first | omega | (simp only [next_push, next_set, next_empty]; done) | (simp only [next_push, next_set, next_empty]; omega)))], (hx.push _).push _, by (first | omega | (simp only [next_push, next_set, next_empty]; done) | (simp only [next_push, next_set, next_empty]; omega)), (ho.push _).push _⟩
        apply V.lpS [46, 6, 10, 47, 48, 49, 50, 51, 52, 53, 54, 55] (fun k xs H4 => ∃ (j : Nat) (z : AV) (g2 : _), xs = .v (.int .i64 j) :: z :: g2 ∧ k = 4 - j ∧ j ≤ 4 ∧ Ext H' H4 ∧ H4.get (H2.next + 1) = some ⟨3, 1, 0, ints (numsR y), none⟩ ∧ H2.next + 1 < H4.next ∧ OwS H4 H'.next 5 1 z (bytesL (hd ++ rnB (rs.take i) ++ ubs ((numsR y).take j))) ∧ ¬ nmO z (H2.next + 1)) 4
        focus (intro xs; simp only [putMany, set2, Nat.reduceAdd, Nat.reduceDiv, Nat.reduceMod, nth_zero, nth_succ, List.set_cons_zero, List.set_cons_succ]; rfl)
        focus (first | rfl | simp only [readMany, nth_zero, nth_succ, Nat.reduceDiv, Nat.reduceMod])
        · obtain ⟨g1, g2, g3, g4⟩ := hN _ _ _ rfl rfl
          exact ⟨0, _, _, rfl, rfl, Nat.zero_le _, g2, g1, g3, by rw [show ubs ((numsR y).take 0) = [] from rfl, List.append_nil]; exact g4, fun z => by have := ho.nm z; omega⟩
        · rintro k xs H4 ⟨j, z, g2, rfl, rfl, hj, hx4, hN4, hl4, ho4, hz4⟩
          have hn4 := hx4.next
          by_cases hj4 : j < 4
          · have hjl : j < (numsR y).length := hj4
            have htj := take_snoc (numsR y) (0 : Int) hjl
            have hnm := hnbx _ (getMemK (0 : Int) hjl)
            have hnj := nth_ints (numsR y) j hjl
            have hutl := ubs_len ((numsR y).take j) fun n hn => by have := hnbx n (List.mem_of_mem_take hn); omega
            have hus : ubs ((numsR y).take (j + 1)) = ubs ((numsR y).take j) ++ ub ((numsR y).getD j 0).toNat := by rw [htj, ubs_snoc]
            rw [List.length_take] at hutl
            have hil : (ints (numsR y)).length = 4 := by rw [ints_len]; rfl
            generalize (numsR y).getD j 0 = v at *
            have hvl := ub_len6 v.toNat (by omega)
            obtain ⟨z', H5, tr5, hap, ho5, hx5, hf5, hj5, hm5⟩ := (ho4.push (ubBlk v.toNat)).addN (ELo oc) lo' app_byte (y := .os H4.next 0 0 (ub v.toNat).length) (new := bytesL (ub v.toNat)) (.inr ⟨H4.next, 0, 0, _, by rw [bytesL_len], by (first | omega | (simp only [next_push, next_set, next_empty]; done) | (simp only [next_push, next_set, next_empty]; omega)), by rw [get_push, if_pos rfl], rfl, rfl, rfl, by simp, by simp⟩) (fun k hk hk2 => by
              obtain ⟨_, _, _, z⟩ := hk2; cases z
              have := ho4.nm hk; omega) (by omega) (by (first | omega | (simp only [next_push, next_set, next_empty]; done) | (simp only [next_push, next_set, next_empty]; omega))) (by simp only [bytesL_len, List.length_append]; unfold roomMax; omega)
            rw [next_push] at hx5
            rw [← bytesL_append, List.append_assoc, ← hus] at ho5
            have hkp : ∀ k, k < H4.next → ¬ nmO z k → H5.get k = H4.get k := fun k hk hk2 => by rw [hf5 k (by (first | omega | (simp only [next_push, next_set, next_empty]; done) | (simp only [next_push, next_set, next_empty]; omega))) hk2, get_push, if_neg (by omega)]
            repeat' (first | refine zka ?_ | refine zkb ?_ | (apply RKp.op; ((try simp (disch := (first | exact zQ | fail)) only [hN4, hil, hnj, wrap_u64', Int.toNat_natCast, hap, go_sem]); exact zL); rfl) | (apply RKp.callN; (apply hU <;> (exact zD)); rfl; intro tr htr) | refine zkc ?_ | refine zz ?_ | refine zkd ?_ | refine zke ?_ | refine zkf ?_ | (refine RKg.split (fun h => ?_) (fun h => ?_) <;> (try rw [h]) <;> (replace h := zB h) <;> (try (exfalso; first | exact h | omega))) | refine zbt ?_ | apply V.regK | refine zvd ?_ | refine zve ?_ | (refine zvf (fun h => ?_) (fun h => ?_) <;> (replace h := zB h) <;> (try (exfalso; first | exact h | omega))) | (refine zfd Tryz.results161 ?_; (try dsimp only)))
            refine LoopS.again (4 - (j + 1)) (by rfl) (by omega) ⟨j + 1, z', _, rfl, rfl, by omega, ⟨by omega, fun k hk => by rw [hkp k (by omega) (fun q => by have := ho4.nm q; omega), hx4.get k hk]⟩, by rw [hkp _ hl4 hz4]; exact hN4, by omega, ho5, fun q => ?_⟩
            rcases hm5 _ q with q | q
            · exact hz4 q
            · rw [next_push] at q; omega
          · have e : j = 4 := by omega
            subst e
            have e2 : (numsR y).take 4 = numsR y := rfl
            rw [e2, List.append_assoc, ← hrs2] at ho4
            repeat' (first | refine zka ?_ | refine zkb ?_ | (apply RKp.op; ((try simp (disch := (first | exact zQ | fail)) only [go_sem]); exact zL); rfl) | refine zkc ?_ | refine zz ?_ | refine zkd ?_ | refine zke ?_ | refine zkf ?_ | (refine RKg.split (fun h => ?_) (fun h => ?_) <;> (try rw [h]) <;> (replace h := zB h) <;> (try (exfalso; first | exact h | omega))) | refine zbt ?_ | apply V.regK | refine zvd ?_ | refine zve ?_ | (refine zvf (fun h => ?_) (fun h => ?_) <;> (replace h := zB h) <;> (try (exfalso; first | exact h | omega))) | (refine zfd Tryz.results161 ?_; (try dsimp only)))
            exact LoopS.again (rs.length - (i + 1)) (by rfl) (by omega) ⟨i + 1, z, _, rfl, rfl, by omega, hx4, ho4⟩
      · have e : i = rs.length := by omega
        subst e
        rw [List.take_length, ← hpk] at ho
        repeat' (first | refine zka ?_ | refine zkb ?_ | (apply RKp.op; ((try simp (disch := (first | exact zQ | fail)) only [rnsA_len, go_sem]); exact zL); rfl) | refine zkc ?_ | refine zz ?_ | refine zkd ?_ | refine zke ?_ | refine zkf ?_ | (refine RKg.split (fun h => ?_) (fun h => ?_) <;> (try rw [h]) <;> (replace h := zB h) <;> (try (exfalso; first | exact h | omega))) | refine zbt ?_ | apply V.regK | refine zvd ?_ | refine zve ?_ | (refine zvf (fun h => ?_) (fun h => ?_) <;> (replace h := zB h) <;> (try (exfalso; first | exact h | omega))) | (refine zfd Tryz.results161 ?_; (try dsimp only)))
        rw [frzR_tup]
        simp only [List.map_cons, List.map_nil, frzR1_v]
        rcases ho with ⟨z, _⟩ | ⟨k, e, rfl, z2, z3, z4⟩
        · have h9 := congrArg List.length z
          rw [bytesL_len, List.length_nil, hpk, List.length_append] at h9
          omega
        · rw [frzR1_os H2 lo' (by omega) z4 rfl rfl (by simp) (show 0 < 1 by decide) (flat_bytes _)]
          simp
end
end Go.Am

namespace Go.Am
variable {oc : Orc} [OrcI oc]
open Go.Proofs
set_option maxRecDepth 8000
set_option maxHeartbeats 8000000
theorem ub_at : ∀ (i n : Nat), i < (ub n).length → (ub n).getD i 0 = (if n / 128 ^ i < 128 then ((n / 128 ^ i : Nat) : Int) else ((n / 128 ^ i % 128 + 128 : Nat) : Int)) ∧ (n / 128 ^ i < 128 ↔ i + 1 = (ub n).length) := by
  intro i
  induction i with
  | zero =>
    intro n _
    rw [Nat.pow_zero, Nat.div_one]
    by_cases h : n < 128
    · rw [if_pos h, ub_lt h]; exact ⟨rfl, ⟨fun _ => rfl, fun _ => h⟩⟩
    · rw [if_neg h, ub_ge h]
      have := ub_pos (n / 128)
      exact ⟨rfl, ⟨fun h' => absurd h' h, fun h' => by rw [List.length_cons] at h'; omega⟩⟩
  | succ i ih =>
    intro n h
    by_cases hn : n < 128
    · rw [ub_lt hn] at h; simp at h
    · rw [ub_ge hn] at h ⊢
      rw [List.length_cons] at h ⊢
      have := ih (n / 128) (by omega)
      rw [Nat.div_div_eq_div_mul, Nat.mul_comm, ← Nat.pow_succ] at this
      rw [List.getD_cons_succ]
      exact ⟨this.1, this.2.trans (by omega)⟩
theorem modpow (n i : Nat) : n % 128 ^ (i + 1) = n % 128 ^ i + n / 128 ^ i % 128 * 128 ^ i := by
  rw [Nat.pow_succ, Nat.mod_mul, Nat.mul_comm (128 ^ i)]
section
variable {ys : List (Nat × LRec)} {lo : Nat} {H : AHeap} {A B : AV} {a b : List Int}
theorem lenB (lo : Nat) {H0 : AHeap} (hA : SlH H0 1 A (bytesL a)) (H : AHeap) (hx : Ext H0 H) : primL lo H (builtinA (ELo oc) .len #[79] 3 [A]) = some (.v (.int .i64 a.length), H, rdTr A) := by
  have := len_SlH (ELo oc) lo 79 3 (hA.ext hx) (by kernel_rfl)
  rw [bytesL_len] at this; exact this
theorem ixB (lo : Nat) {H0 : AHeap} (hA : SlH H0 1 A (bytesL a)) (H : AHeap) (hx : Ext H0 H) (κ : IntKind) (z : Int) (h0 : 0 ≤ z) (h1 : z < a.length) : primL lo H (indexAddrA (ELo oc) 79 A (.v (.int κ z))) = some (ixA A (bytesL a) z.toNat, H, rdTr A) :=
  ix_SlH (ELo oc) lo 79 κ z (hA.ext hx) (by kernel_rfl) h0 (by rw [bytesL_len]; exact h1)
theorem ldB (lo : Nat) {H0 : AHeap} (hA : SlH H0 1 A (bytesL a)) (H : AHeap) (hx : Ext H0 H) (j : Nat) (h : j < a.length) : primL lo H (loadA (ELo oc) 5 (ixA A (bytesL a) j)) = some (.v (.int .u8 (a.getD j 0)), H, rdTr A) := by
  rw [load_SlH (ELo oc) lo 5 j (hA.ext hx) (by rw [bytesL_len]; exact h), nth_bytesL a j h]; rfl
theorem slB_hi (lo : Nat) {H0 : AHeap} (hA : SlH H0 1 A (bytesL a)) (H : AHeap) (hx : Ext H0 H) (κ : IntKind) (z : Int) (h0 : 0 ≤ z) (h1 : z ≤ a.length) : primL lo H (sliceA (ELo oc) 79 A none (some (.v (.int κ z))) none) = some (cutA A 0 z.toNat, H, rdTr A) :=
  slice_SlH (ELo oc) lo (by kernel_rfl) (hA.ext hx) none _ (bound_none 0) (bound_some κ z _ h0) (Nat.zero_le _) (by rw [bytesL_len]; omega)
theorem slB_lo (lo : Nat) {H0 : AHeap} (hA : SlH H0 1 A (bytesL a)) (H : AHeap) (hx : Ext H0 H) (κ : IntKind) (z : Int) (h0 : 0 ≤ z) (h1 : z ≤ a.length) : primL lo H (sliceA (ELo oc) 79 A (some (.v (.int κ z))) none none) = some (cutA A z.toNat a.length, H, rdTr A) :=
  slice_SlH (ELo oc) lo (by kernel_rfl) (hA.ext hx) _ none (bound_some κ z _ h0) (by rw [bound_none, bytesL_len]) (by omega) (by rw [bytesL_len]; omega)
theorem cutB {H : AHeap} (hA : SlH H 1 A (bytesL a)) {l r : Nat} (h1 : l ≤ r) (h2 : r ≤ a.length) : SlH H 1 (cutA A l r) (bytesL ((a.drop l).take (r - l))) := by
  have := cutA_SlH hA h1 (by rw [bytesL_len]; exact h2)
  rw [bytesL, ← List.map_drop, ← List.map_take] at this
  exact this
theorem EqB_run (hA : SlH H 1 A (bytesL a)) (hB : SlH H 1 B (bytesL b)) (hl : a.length < 2 ^ 40) (hm : b.length < 2 ^ 40) : CallRo (ELo oc) ys lo 193 [A, B] H (.v (.bool (decide (a = b)))) := by
  refine WC.pureR rfl fun lo' H' hh => ?_
  have hA' := hA.two (.inr ⟨[], .inr (by simp)⟩) hh
  have hB' := hB.two (.inr ⟨[], .inr (by simp)⟩) hh
  have hlo := lo_two hh
  refine zvin Tryz.func193 Tryz.ntmps193 ?_
  repeat' (first | refine zka ?_ | refine zkb ?_ | (apply RKp.op; ((try simp (disch := (first | exact zQ | fail)) only [lenB lo' hA', ixB lo' hA', ldB lo' hA', slB_hi lo' hA', slB_lo lo' hA', lenB lo' hB', ixB lo' hB', ldB lo' hB', slB_hi lo' hB', slB_lo lo' hB', go_sem]); exact zL); rfl) | refine zkc ?_ | refine zz ?_ | refine zkd ?_ | refine zke ?_ | refine zkf ?_ | (refine RKg.split (fun h => ?_) (fun h => ?_) <;> (try rw [h]) <;> (replace h := zB h) <;> (try (exfalso; first | exact h | omega))) | refine zbt ?_ | apply V.regK | refine zva ?_ | refine zvb ?_ | refine zgc ?_ | refine zvd ?_ | refine zve ?_ | (refine zvf (fun h => ?_) (fun h => ?_) <;> (replace h := zB h) <;> (try (exfalso; first | exact h | omega))) | (refine zfc Tryz.results193 ?_; (try dsimp only)))
  · rw [frzR_v]; congr 2
    rw [eq_comm, decide_eq_false_iff_not]
    rintro rfl; exact h rfl
  · have hlm : a.length = b.length := by omega
    apply V.lpF [13, 4, 5, 14, 15, 16, 17, 18, 19, 20, 21, 22, 23, 24, 25] (fun k xs => ∃ (i : Nat) (g : _), xs = .v (.int .i64 i) :: g ∧ k = a.length - i ∧ i ≤ a.length ∧ ∀ j, j < i → a.getD j 0 = b.getD j 0) a.length
    focus (intro xs; simp only [putMany, set2, Nat.reduceAdd, Nat.reduceDiv, Nat.reduceMod, nth_zero, nth_succ, List.set_cons_zero, List.set_cons_succ]; rfl)
    focus (first | rfl | simp only [readMany, nth_zero, nth_succ, Nat.reduceDiv, Nat.reduceMod])
    · exact ⟨0, _, rfl, rfl, Nat.zero_le _, fun j h => absurd h (Nat.not_lt_zero _)⟩
    · rintro k xs ⟨i, g, rfl, rfl, hi, hst⟩
      repeat' (first | refine zka ?_ | refine zkb ?_ | (apply RKp.op; ((try simp (disch := (first | exact zQ | fail)) only [lenB lo' hA', ixB lo' hA', ldB lo' hA', slB_hi lo' hA', slB_lo lo' hA', lenB lo' hB', ixB lo' hB', ldB lo' hB', slB_hi lo' hB', slB_lo lo' hB', Int.toNat_natCast, go_sem]); exact zL); rfl) | refine zkc ?_ | refine zz ?_ | refine zkd ?_ | refine zke ?_ | refine zkf ?_ | (refine RKg.split (fun h => ?_) (fun h => ?_) <;> (try rw [h]) <;> (replace h := zB h) <;> (try (exfalso; first | exact h | omega))) | refine zbt ?_ | apply V.regK | refine zva ?_ | refine zvb ?_ | refine zgc ?_ | refine zvd ?_ | refine zve ?_ | (refine zvf (fun h => ?_) (fun h => ?_) <;> (replace h := zB h) <;> (try (exfalso; first | exact h | omega))) | (refine zfc Tryz.results193 ?_; (try dsimp only)))
      · rw [frzR_v]; congr 2
        rw [eq_comm, decide_eq_false_iff_not]
        rintro rfl; simp at h
      · refine LoopF.again (a.length - (i + 1)) (by rfl) (by omega) ⟨i + 1, _, rfl, rfl, by omega, fun j hj => ?_⟩
        rcases Nat.lt_succ_iff_lt_or_eq.1 hj with hj | rfl
        · exact hst j hj
        · exact h
      · rw [frzR_v]; congr 2
        rw [eq_comm, decide_eq_true_eq]
        exact getD_ext hlm fun j h1 => hst j (by omega)
theorem GetUint_run (n : Nat) (hn : n < 2 ^ 40) (rest : List Int) (hA : SlH H 1 A (bytesL (ub n ++ rest))) (hrl : rest.length < 2 ^ 30) : CallRo (ELo oc) ys lo 185 [A] H (.tup [.v (.int .u64 (n : Int)), .v (.int .i64 ((ub n).length : Int))]) := by
  refine WC.pureR rfl fun lo' H' hh => ?_
  have hA' := hA.two (.inr ⟨[], .inr (by simp)⟩) hh
  have hlo := lo_two hh
  have h6 := ub_len6 n hn
  have h1 := ub_pos n
  have hal : (ub n ++ rest).length = (ub n).length + rest.length := List.length_append
  have hcut := cutB hA' (l := 0) (r := (min ((ub n ++ rest).length : Int) 10).toNat) (Nat.zero_le _) (by omega)
  generalize hbs : ((ub n ++ rest).drop 0).take ((min ((ub n ++ rest).length : Int) 10).toNat - 0) = bs at hcut
  have lenC := fun G x => lenB lo' hcut G x
  have ixC := fun G x => ixB lo' hcut G x
  have ldC := fun G x => ldB lo' hcut G x
  have hcl : bs.length = (min ((ub n ++ rest).length : Int) 10).toNat := by rw [← hbs, List.length_take, List.drop_zero]; omega
  have hcg : ∀ j, j < (ub n).length → bs.getD j 0 = (ub n).getD j 0 := fun j hj => by
    rw [← hbs, List.drop_zero, List.getD_eq_getElem?_getD, List.getElem?_take, if_pos (by omega), List.getElem?_append_left hj, List.getD_eq_getElem?_getD]
  clear hbs
  rw [hcl] at lenC ixC ldC
  have hK : (ub n).length ≤ (min ((ub n ++ rest).length : Int) 10).toNat ∧ (min ((ub n ++ rest).length : Int) 10).toNat ≤ 10 := by omega
  refine zvin Tryz.func185 Tryz.ntmps185 ?_
  repeat' (first | refine zka ?_ | refine zkb ?_ | (apply RKp.op; ((try simp (disch := (first | exact zQ | fail)) only [lenB lo' hA', ixB lo' hA', ldB lo' hA', slB_hi lo' hA', slB_lo lo' hA', lenC, go_sem]); exact zL); rfl) | refine zkc ?_ | refine zz ?_ | refine zkd ?_ | refine zke ?_ | refine zkf ?_ | (refine RKg.split (fun h => ?_) (fun h => ?_) <;> (try rw [h]) <;> (replace h := zB h) <;> (try (exfalso; first | exact h | omega))) | refine zbt ?_ | apply V.regK | refine zva ?_ | refine zvb ?_ | refine zgc ?_ | refine zvd ?_ | refine zve ?_ | (refine zvf (fun h => ?_) (fun h => ?_) <;> (replace h := zB h) <;> (try (exfalso; first | exact h | omega))) | (refine zfd Tryz.results185 ?_; (try dsimp only)))
  generalize (min ((ub n ++ rest).length : Int) 10).toNat = K at *
  apply V.lpF [13, 4, 2, 3, 5, 6, 14, 15, 16, 17, 18, 19, 20, 21, 22, 23, 24, 25, 26, 27, 28, 29, 30, 31, 32, 33, 34, 35, 36, 37, 38, 39] (fun k xs => ∃ (i : Nat) (g : _), xs = .v (.int .i64 i) :: .v (.int .u64 ((n % 128 ^ i : Nat) : Int)) :: g ∧ k = K - i ∧ i < (ub n).length) K
  focus (intro xs; simp only [putMany, set2, Nat.reduceAdd, Nat.reduceDiv, Nat.reduceMod, nth_zero, nth_succ, List.set_cons_zero, List.set_cons_succ]; rfl)
  focus (first | rfl | simp only [readMany, nth_zero, nth_succ, Nat.reduceDiv, Nat.reduceMod])
  · exact ⟨0, _, by rw [Nat.pow_zero, Nat.mod_one]; rfl, rfl, h1⟩
  · rintro k xs ⟨i, g, rfl, rfl, hi⟩
    obtain ⟨hx, hend⟩ := ub_at i n hi
    have hxb := ub_byte n _ (getMemK (0 : Int) hi)
    have hgi := hcg i hi
    have hp : (2 : Nat) ^ (7 * i) = 128 ^ i := by rw [Nat.pow_mul]
    have hi6 : i ≤ 5 := by omega
    have hD : andI .u8 ((ub n).getD i 0) 127 = ((n / 128 ^ i % 128 : Nat) : Int) := by
      rw [and127 _ (by omega), hx]
      split
      · rename_i q; rw [Nat.mod_eq_of_lt q]; omega
      · omega
    have hDl : n / 128 ^ i % 128 < 128 := Nat.mod_lt _ (by decide)
    have hpw : 128 ^ i ≤ 128 ^ 5 := Nat.pow_le_pow_right (by decide) hi6
    have hmp := modpow n i
    have hml : n % 128 ^ i < 128 ^ i := Nat.mod_lt _ (Nat.pow_pos (by decide))
    have hmn : n % 128 ^ (i + 1) ≤ n := Nat.mod_le _ _
    have hsh : ∀ t xo yo, binOpA (ELo oc) .shl t xo yo (.v (.int .u64 ((n / 128 ^ i % 128 : Nat) : Int))) (.v (.int .i64 (7 * (i : Int)))) = .val (.v (.int .u64 ((n / 128 ^ i % 128 * 2 ^ (7 * i) : Nat) : Int))) := fun t xo yo => by
      rw [bin_shl (ELo oc) t xo yo _ _ _ _ (by omega)]
      have e : (min (7 * (i : Int)).toNat IntKind.u64.bits) = 7 * i := by
        show min _ 64 = _
        omega
      rw [e, wrap_u64']
      · have e9 : ((n / 128 ^ i % 128 * 2 ^ (7 * i) : Nat) : Int) = ((n / 128 ^ i % 128 : Nat) : Int) * 2 ^ (7 * i) := by rw [Int.natCast_mul, Int.natCast_pow]; rfl
        rw [e9]
      · exact Int.mul_nonneg (by omega) (by exact_mod_cast Nat.zero_le (2 ^ (7 * i)))
      · have : ((n / 128 ^ i % 128 * 2 ^ (7 * i) : Nat) : Int) = ((n / 128 ^ i % 128 : Nat) : Int) * 2 ^ (7 * i) := by rw [Int.natCast_mul, Int.natCast_pow]; rfl
        rw [← this, hp]; omega
    have hor : orI .u64 ((n % 128 ^ i : Nat) : Int) ((n / 128 ^ i % 128 * 2 ^ (7 * i) : Nat) : Int) = ((n % 128 ^ (i + 1) : Nat) : Int) := by
      rw [orU64 _ _ _ (by rw [hp]; exact hml) (by rw [hp]; omega), hp, ← hmp]
    generalize hX : (ub n).getD i 0 = X at *
    by_cases hq : n / 128 ^ i < 128
    · have hen := hend.1 hq
      have hxl : X < 128 := by rw [hx, if_pos hq]; omega
      have hnn : n % 128 ^ (i + 1) = n := by
        rw [hmp, Nat.mod_eq_of_lt hq]
        have := Nat.mod_add_div n (128 ^ i)
        rw [Nat.mul_comm] at this; exact this
      rw [hnn] at hor
      have hU := fun ys => Uint_run (ys := ys) (lo := lo') (H := H') n hn
      have hB : ∀ ys, CallRo (ELo oc) ys lo' 193 [.os H'.next 0 0 (ub n).length, cutA A 0 (((i : Int) + 1).toNat)] (H'.push (ubBlk n)) (.v (.bool true)) := fun ys => by
        have hs1 : SlH (H'.push (ubBlk n)) 1 (.os H'.next 0 0 (ub n).length) (bytesL (ub n)) := .inr ⟨H'.next, 0, 0, _, by rw [bytesL_len], by (first | omega | (simp only [next_push, next_set, next_empty]; done) | (simp only [next_push, next_set, next_empty]; omega)), by rw [get_push, if_pos rfl], rfl, rfl, rfl, by simp, by simp⟩
        have hs2 := cutB (hA'.push (ubBlk n)) (l := 0) (r := ((i : Int) + 1).toNat) (Nat.zero_le _) (by omega)
        have e : ((ub n ++ rest).drop 0).take (((i : Int) + 1).toNat - 0) = ub n := by
          rw [List.drop_zero, show ((i : Int) + 1).toNat - 0 = (ub n).length by omega, List.take_left]
        rw [e] at hs2
        have := EqB_run (ys := ys) (lo := lo') hs1 hs2 (by omega) (by omega)
        rw [decide_eq_true rfl] at this
        exact this
      repeat' (first | refine zka ?_ | refine zkb ?_ | (apply RKp.op; ((try simp (disch := (first | exact zQ | fail)) only [lenC, ixC, ldC, hgi, lenB lo' hA', ixB lo' hA', ldB lo' hA', slB_hi lo' hA', slB_lo lo' hA', Int.toNat_natCast, bin_and, bin_or, hD, hsh, hor, wrap_u64', go_sem]); exact zL); rfl) | (apply RKp.callR; (apply hB <;> (exact zD)); rfl; intro tr htr) | (apply RKp.callN; (apply hU <;> (exact zD)); rfl; intro tr htr) | refine zkc ?_ | refine zz ?_ | refine zkd ?_ | refine zke ?_ | refine zkf ?_ | (refine RKg.split (fun h => ?_) (fun h => ?_) <;> (try rw [h]) <;> (replace h := zB h) <;> (try (exfalso; first | exact h | omega))) | refine zbt ?_ | apply V.regK | refine zva ?_ | refine zvb ?_ | refine zgc ?_ | refine zvd ?_ | refine zve ?_ | (refine zvf (fun h => ?_) (fun h => ?_) <;> (replace h := zB h) <;> (try (exfalso; first | exact h | omega))) | (refine zfd Tryz.results185 ?_; (try dsimp only)))
      rw [frzR_tup]
      simp only [List.map_cons, List.map_nil, frzR1_v]
      rw [show (i : Int) + 1 = ((ub n).length : Int) by omega]
    · have hxl : ¬ X < 128 := by rw [hx, if_neg hq]; omega
      have hen : i + 1 < (ub n).length := by
        have : ¬ i + 1 = (ub n).length := fun z => hq (hend.2 z)
        omega
      repeat' (first | refine zka ?_ | refine zkb ?_ | (apply RKp.op; ((try simp (disch := (first | exact zQ | fail)) only [lenC, ixC, ldC, hgi, lenB lo' hA', ixB lo' hA', ldB lo' hA', slB_hi lo' hA', slB_lo lo' hA', Int.toNat_natCast, bin_and, bin_or, hD, hsh, hor, wrap_u64', go_sem]); exact zL); rfl) | refine zkc ?_ | refine zz ?_ | refine zkd ?_ | refine zke ?_ | refine zkf ?_ | (refine RKg.split (fun h => ?_) (fun h => ?_) <;> (try rw [h]) <;> (replace h := zB h) <;> (try (exfalso; first | exact h | omega))) | refine zbt ?_ | apply V.regK | refine zva ?_ | refine zvb ?_ | refine zgc ?_ | refine zvd ?_ | refine zve ?_ | (refine zvf (fun h => ?_) (fun h => ?_) <;> (replace h := zB h) <;> (try (exfalso; first | exact h | omega))) | (refine zfd Tryz.results185 ?_; (try dsimp only)))
      exact LoopF.again (K - (i + 1)) (by rfl) (by omega) ⟨i + 1, _, rfl, rfl, hen⟩
end
end Go.Am

namespace Go.Am
variable {oc : Orc} [OrcI oc]
open Go.Proofs
set_option maxRecDepth 8000
set_option maxHeartbeats 8000000
theorem resctt {P : Program} {fn : Func} {s : St} {a t u v : Nat} (h : fn.results = #[.cell a t, .tmp u, .tmp v]) : resultsA P fn s = (cellR P s.H t (s.tm.get a)).bind fun x => some (.tup [x, s.tm.get u, s.tm.get v]) := by
  unfold resultsA
  rw [h]
  simp only [cellR, nth_getD, List.mapM_cons, List.mapM_nil]
  cases s.tm.get a with
  | op n e i j =>
    dsimp only
    cases s.H.get n with
    | none => rfl
    | some b =>
      simp only [bind, Option.bind_some]
      split
      · cases partA P t (List.drop j (b.es.getD i [])) <;> rfl
      · rfl
  | _ => rfl
theorem mk_int (lo : Nat) (H : AHeap) (n : Nat) (hn : n ≤ 300) : primL lo H (makeSliceA (ELo oc) 59 (.v (.int .i64 n)) (.v (.int .i64 n))) = some (.os H.next 0 0 n, H.push ⟨3, 1, 0, ints (List.replicate n 0), none⟩, ⟨0, 2 ^ H.next, 0⟩) := by
  have hu : (ELo oc).P.underlying 59 = some (.slice 3) := by kernel_rfl
  have hs : infoSize (ELo oc).P 3 = some 1 := by kernel_rfl
  have hb : infoBytes (ELo oc).P 3 = some 8 := by kernel_rfl
  have hz : zeroCells (ELo oc).P 3 = some [.v (.int .i64 0)] := by kernel_rfl
  simp only [makeSliceA, hu, hs, hb, hz]
  rw [if_pos (by unfold roomMax; simp; omega)]
  have e : ints (List.replicate n 0) = List.replicate n [.v (.int .i64 0)] := by simp [ints]
  simp only [primL_prim0, Option.bind_some, effL_new, e, Int.toNat_natCast]; rfl
section
variable {ys : List (Nat × LRec)} {lo : Nat} {H : AHeap} {A B : AV}
theorem Sl_cutB {A : AV} {a : List Int} (hA : Sl 1 A (bytesL a)) {l r : Nat} : Sl 1 (cutA A l r) (bytesL ((a.drop l).take (r - l))) := by
  have := cutA_Sl (lo := l) (hi := r) hA
  rw [bytesL, ← List.map_drop, ← List.map_take] at this
  exact this
theorem numbers_run {m e : Nat} {vs ns rest : List Int} (hA : Sl 1 A (bytesL (ubs ns ++ rest))) (hm : m < H.next) (hlo : lo ≤ m) (hg : H.get m = some ⟨3, 1, e, ints vs, none⟩) (hl : vs.length = ns.length) (hn : ns.length ≤ 4) (hns : ∀ n ∈ ns, 0 ≤ n ∧ n ≤ 1073741824) (hr : rest.length < 2 ^ 29) : CallE (ELo oc) ys lo 192 [A, .os m e 0 ns.length] H fun x H' => x = .v (.int .i64 ((ubs ns).length : Int)) ∧ H'.next = H.next ∧ H'.get m = some ⟨3, 1, e, ints ns, none⟩ ∧ Turn (fun k => k = m) H H' := by
  refine WC.effE rfl ?_
  have hul := ubs_len ns fun n h => by have := hns n h; omega
  have hsl : SlH H 1 (.os m e 0 ns.length) (ints vs) := .inr ⟨m, e, 0, _, by rw [ints_len, hl], hm, hg, rfl, rfl, rfl, by rw [ints_len, hl]; simp, by simp⟩
  have lnM := len_SlH (ELo oc) lo 59 3 hsl (by kernel_rfl)
  rw [ints_len, hl] at lnM
  refine zvin Tryz.func192 Tryz.ntmps192 ?_
  repeat' (first | refine zka ?_ | refine zkb ?_ | (apply RKp.op; ((try simp (disch := (first | exact zQ | fail)) only [lnM, go_sem]); exact zL); rfl) | refine zkc ?_ | refine zz ?_ | refine zkd ?_ | refine zke ?_ | refine zkf ?_ | (refine RKg.split (fun h => ?_) (fun h => ?_) <;> (try rw [h]) <;> (replace h := zB h) <;> (try (exfalso; first | exact h | omega))) | refine zbt ?_ | apply V.regK | refine zvd ?_ | refine zve ?_ | (refine zvf (fun h => ?_) (fun h => ?_) <;> (replace h := zB h) <;> (try (exfalso; first | exact h | omega))) | (refine zfc Tryz.results192 ?_; (try dsimp only)))
  apply V.lpS [11, 5, 4, 6, 7, 8, 12, 13, 14, 15, 16, 17, 18, 19, 20, 21, 22, 23, 24, 25, 26, 27, 28, 29, 30, 31, 32, 33, 34, 35] (fun k xs H2 => ∃ (i : Nat) (g : _), xs = .v (.int .i64 i) :: .v (.int .i64 ((ubs (ns.take i)).length : Int)) :: g ∧ k = ns.length - i ∧ i ≤ ns.length ∧ H2.next = H.next ∧ H2.get m = some ⟨3, 1, e, ints (ns.take i ++ vs.drop i), none⟩ ∧ Turn (fun k => k = m) H H2) ns.length
  focus (intro xs; simp only [putMany, set2, Nat.reduceAdd, Nat.reduceDiv, Nat.reduceMod, nth_zero, nth_succ, List.set_cons_zero, List.set_cons_succ]; rfl)
  focus (first | rfl | simp only [readMany, nth_zero, nth_succ, Nat.reduceDiv, Nat.reduceMod])
  · exact ⟨0, _, rfl, rfl, Nat.zero_le _, rfl, hg, Turn.refl _ _⟩
  · rintro k xs H2 ⟨i, g, rfl, rfl, hi, hn2, hg2, ht⟩
    by_cases hlt : i < ns.length
    · have hz := hns _ (getMemK (0 : Int) hlt)
      have htk := take_snoc ns (0 : Int) hlt
      have hdr : ns = ns.take i ++ ns.getD i 0 :: ns.drop (i + 1) := by
        rw [List.getD_eq_getElem?_getD, List.getElem?_eq_getElem hlt]
        show ns = ns.take i ++ ns[i] :: ns.drop (i + 1)
        rw [← List.drop_eq_getElem_cons hlt, List.take_append_drop]
      have hub : ubs ns ++ rest = ubs (ns.take i) ++ (ub (ns.getD i 0).toNat ++ (ubs (ns.drop (i + 1)) ++ rest)) := by
        conv => lhs; rw [hdr]
        rw [ubs_app, List.append_assoc]
        show _ ++ ((ub _ ++ ubs _) ++ rest) = _
        rw [List.append_assoc]
      have hul2 := congrArg List.length hub
      simp only [List.length_append] at hul2
      have hsp : ns.take i ++ vs.drop i = ns.take i ++ vs.getD i 0 :: vs.drop (i + 1) := by
        congr 1
        rw [List.getD_eq_getElem?_getD, List.getElem?_eq_getElem (by omega)]
        exact List.drop_eq_getElem_cons (by omega)
      generalize hzz : ns.getD i 0 = z at *
      have hzt : ((z.toNat : Nat) : Int) = z := Int.toNat_of_nonneg hz.1
      have hcut : Sl 1 (cutA A (ubs (ns.take i)).length (ubs ns ++ rest).length) (bytesL (ub z.toNat ++ (ubs (ns.drop (i + 1)) ++ rest))) := by
        have := Sl_cutB (l := (ubs (ns.take i)).length) (r := (ubs ns ++ rest).length) hA
        have e : ((ubs ns ++ rest).drop (ubs (ns.take i)).length).take ((ubs ns ++ rest).length - (ubs (ns.take i)).length) = ub z.toNat ++ (ubs (ns.drop (i + 1)) ++ rest) := by
          rw [hub, List.drop_left]
          exact List.take_of_length_le (by simp only [List.length_append]; omega)
        rw [e] at this
        exact this
      have hG := fun ys G => GetUint_run (ys := ys) (lo := lo) (H := G) z.toNat (by omega) (ubs (ns.drop (i + 1)) ++ rest) (.inl hcut) (by rw [List.length_append]; omega)
      have slA : ∀ G, primL lo G (sliceA (ELo oc) 79 A (some (.v (.int .i64 ((ubs (ns.take i)).length : Int)))) none none) = some (cutA A (ubs (ns.take i)).length (ubs ns ++ rest).length, G, rdTr A) := fun G => slB_lo lo (.inl hA : SlH G 1 A (bytesL (ubs ns ++ rest))) G (Ext.refl _) .i64 _ (by omega) (by rw [List.length_append]; omega)
      have hpos := ub_pos z.toNat
      have hset : (ints (ns.take i ++ vs.drop i)).set i [.v (.int .i64 z)] = ints (ns.take (i + 1) ++ vs.drop (i + 1)) := by
        rw [set_ints, hsp, List.set_append_right _ _ (by rw [List.length_take]; omega), htk]
        rw [show i - (ns.take i).length = 0 by rw [List.length_take]; omega, List.set_cons_zero, List.append_assoc]; rfl
      have hle : (ints (ns.take i ++ vs.drop i)).length = ns.length := by rw [ints_len, List.length_append, List.length_take, List.length_drop]; omega
      have hnx : ∃ y, nth [] (ints (ns.take i ++ vs.drop i)) i = [y] := ⟨_, nth_ints _ _ (by rw [← ints_len, hle]; exact hlt)⟩
      obtain ⟨y, hnx⟩ := hnx
      have hu2 : (ubs (ns.take (i + 1))).length = (ubs (ns.take i)).length + (ub z.toNat).length := by rw [htk, ubs_snoc, List.length_append]
      repeat' (first | refine zka ?_ | refine zkb ?_ | (apply RKp.op; ((try simp (disch := (first | exact zQ | fail)) only [slA, hg2, hset, hle, hnx, hzt, Int.toNat_natCast, go_sem]); exact zL); rfl) | (apply RKp.callR; (apply hG <;> (exact zD)); rfl; intro tr htr) | refine zkc ?_ | refine zz ?_ | refine zkd ?_ | refine zke ?_ | refine zkf ?_ | (refine RKg.split (fun h => ?_) (fun h => ?_) <;> (try rw [h]) <;> (replace h := zB h) <;> (try (exfalso; first | exact h | omega))) | refine zbt ?_ | apply V.regK | refine zvd ?_ | refine zve ?_ | (refine zvf (fun h => ?_) (fun h => ?_) <;> (replace h := zB h) <;> (try (exfalso; first | exact h | omega))) | (refine zfc Tryz.results192 ?_; (try dsimp only)))
      refine LoopS.again (ns.length - (i + 1)) (by rfl) (by omega) ⟨i + 1, _, by rw [hu2]; rfl, rfl, by omega, hn2, by rw [get_set, if_pos rfl], ht.set m _ (.inl rfl)⟩
    · have e : i = ns.length := by omega
      subst e
      rw [List.take_length] at *
      repeat' (first | refine zka ?_ | refine zkb ?_ | (apply RKp.op; ((try simp (disch := (first | exact zQ | fail)) only [go_sem]); exact zL); rfl) | refine zkc ?_ | refine zz ?_ | refine zkd ?_ | refine zke ?_ | refine zkf ?_ | (refine RKg.split (fun h => ?_) (fun h => ?_) <;> (try rw [h]) <;> (replace h := zB h) <;> (try (exfalso; first | exact h | omega))) | refine zbt ?_ | apply V.regK | refine zvd ?_ | refine zve ?_ | (refine zvf (fun h => ?_) (fun h => ?_) <;> (replace h := zB h) <;> (try (exfalso; first | exact h | omega))) | (refine zfc Tryz.results192 ?_; (try dsimp only)))
      rw [List.drop_eq_nil_of_le (by omega), List.append_nil] at hg2
      exact ⟨rfl, hn2, hg2, ht⟩

/-- A cell, some times. -/
theorem RepeatC_run [OrcF oc] (k n : Nat) (c : Ce) (hk : k < H.next) (hg : H.get k = some (cblk 0 [c])) (hn : n ≤ 300) : CallRo (ELo oc) ys lo 110 [.os k 0 0 1, .v (.int .i64 n)] H (.sl 3 (cesA (List.replicate n c))) := by
  refine WC.pureR pR_pure fun lo' H' hh => ?_
  rcases hh with ⟨hlo, rfl⟩ | ⟨_, _, hnf⟩
  · have hgx : ∀ b, (H'.push b).get k = some (cblk 0 [c]) := fun b => by rw [get_push, if_neg (by omega)]; exact hg
    have hcp := copy_two lo' (H := H'.push (cblk 0 (zeros n))) (n := H'.next) (e := 0) (off := 0) (len := n) (m := k) (e' := 0) (off' := 0) (len' := 1) (l := zeros n) (l' := [c]) 3 41 (by rw [get_push, if_pos rfl]) (hgx _) (by omega) (by simp [zeros]) (by simp) (by omega)
    have hmk := fun H => mk_cell lo' H n hn
    refine zvin Tryz.func110 Tryz.ntmps110 ?_
    repeat' (first | refine zka ?_ | refine zkb ?_ | (apply RKp.op; ((try simp (disch := (first | exact zQ | fail)) only [wrap_u64, plan_makeSlice, hmk, hcp, hg, go_sem]); exact zL); rfl) | (apply RKp.call; (apply Mul_run <;> (exact zD)); rfl) | refine zkc ?_ | refine zz ?_ | refine zkd ?_ | refine zke ?_ | refine zkf ?_ | (refine RKg.split (fun h => ?_) (fun h => ?_) <;> (try rw [h]) <;> (replace h := zB h) <;> (try (exfalso; first | exact h | omega))) | refine zbt ?_ | apply V.regK | refine zva ?_ | refine zvb ?_ | refine zgc ?_ | refine zvd ?_ | refine zve ?_ | (refine zvf (fun h => ?_) (fun h => ?_) <;> (replace h := zB h) <;> (try (exfalso; first | exact h | omega))) | (refine zfc Tryz.results110 ?_; (try dsimp only)))
    apply V.lpS [8, 34, 35, 36, 37, 38, 39, 40, 41, 42, 43, 44, 45, 46] (fun k xs H2 => ∃ (i : Nat) (g : _), xs = .v (.int .i64 i) :: g ∧ k = n - i ∧ i ≤ n ∧ (0 < n → 0 < i) ∧ H'.next < H2.next ∧ H2.get H'.next = some (cblk 0 (List.replicate i c ++ zeros (n - i)))) (n - min 1 n)
    focus (intro xs; simp only [putMany, set2, Nat.reduceAdd, Nat.reduceDiv, Nat.reduceMod, nth_zero, nth_succ, List.set_cons_zero, List.set_cons_succ]; rfl)
    focus (first | rfl | simp only [readMany, nth_zero, nth_succ, Nat.reduceDiv, Nat.reduceMod])
    · refine ⟨min 1 n, _, rfl, by omega, by omega, by omega, by (first | omega | (simp only [next_push, next_set, next_empty]; done) | (simp only [next_push, next_set, next_empty]; omega)), ?_⟩
      rw [get_push, if_pos rfl]
      congr 2
      rcases Nat.eq_zero_or_pos n with h0 | h0
      · subst h0; rfl
      · obtain ⟨j, rfl⟩ : ∃ j, n = j + 1 := ⟨n - 1, by omega⟩
        rw [Nat.min_eq_left (by omega)]
        simp [overC, zeros, List.replicate_succ]
    · rintro k' xs H2 ⟨i, g, rfl, rfl, hi, hp, hn2, g0⟩
      have hlen : (List.replicate i c ++ zeros (n - i)).length = n := by simp [zeros]; omega
      have hsl : SlH H2 3 (.os H'.next 0 0 n) (cesA (List.replicate i c ++ zeros (n - i))) := .inr ⟨H'.next, 0, 0, _, by rw [ces_len, hlen], hn2, g0, rfl, rfl, rfl, by simp only [Nat.zero_add, Nat.le_refl], by simp only [List.drop_zero, List.take_length]⟩
      have s1 := sl_lo lo' hsl .i64 i (by omega) (by omega)
      have s2 := sl_hi lo' hsl .i64 i (by omega) (by omega)
      rw [ces_len, hlen] at s1
      simp only [cutA, Int.toNat_natCast, Nat.zero_add, Nat.add_zero, Nat.sub_zero] at s1 s2
      have hcp := copy_self lo' (off := i) (len := n - i) (off' := 0) (len' := i) 3 41 g0 (by omega) (by omega) (by omega)
      have hln : (cesA (List.replicate i c ++ zeros (n - i))).length = n := by rw [ces_len, hlen]
      repeat' (first | refine zka ?_ | refine zkb ?_ | (apply RKp.op; ((try simp (disch := (first | exact zQ | fail)) only [s1, s2, hcp, g0, hln, List.length_take, Nat.min_self, go_sem]); exact zL); rfl) | refine zkc ?_ | refine zz ?_ | refine zkd ?_ | refine zke ?_ | refine zkf ?_ | (refine RKg.split (fun h => ?_) (fun h => ?_) <;> (try rw [h]) <;> (replace h := zB h) <;> (try (exfalso; first | exact h | omega))) | refine zbt ?_ | apply V.regK | refine zva ?_ | refine zvb ?_ | refine zgc ?_ | refine zvd ?_ | refine zve ?_ | (refine zvf (fun h => ?_) (fun h => ?_) <;> (replace h := zB h) <;> (try (exfalso; first | exact h | omega))) | (refine zfc Tryz.results110 ?_; (try dsimp only)))
      · refine LoopS.again (n - (i + min i (n - i))) (by rfl) (by omega) ⟨i + min i (n - i), _, by rw [show ((i + min i (n - i) : Nat) : Int) = (i : Int) + ((min i (n - i) : Nat) : Int) by omega]; rfl, rfl, by omega, by omega, by (first | omega | (simp only [next_push, next_set, next_empty]; done) | (simp only [next_push, next_set, next_empty]; omega)), ?_⟩
        rw [get_set, if_pos rfl]
        congr 2
        refine ce_ext (by simp [overC, zeros]; omega) fun j hj => ?_
        simp only [overC, zeros, List.getD_eq_getElem?_getD]
        grind
      · have : i = n := by omega
        subst this
        have e : List.replicate i c ++ zeros (i - i) = List.replicate i c := by simp [zeros]
        rw [e] at g0
        have := os_frz (lo := lo') (by omega) g0
        rw [List.length_replicate] at this
        exact this
  · cases hnf
end
end Go.Am

namespace Go.Am
variable {oc : Orc} [OrcI oc]
open Go.Proofs
set_option maxRecDepth 8000
set_option maxHeartbeats 8000000
theorem flatR_take {rs : List (Int × Ce)} {i : Nat} (h : i < rs.length) : flatR (rs.take (i + 1)) = flatR (rs.take i) ++ List.replicate (rs.getD i noRun).1.toNat (rs.getD i noRun).2 := by
  rw [take_snoc rs noRun h, flatR_app]
  congr 1
  simp [flatR]
theorem flatR_le (rs : List (Int × Ce)) (i : Nat) : (flatR (rs.take i)).length ≤ (flatR rs).length := by
  conv => rhs; rw [← List.take_append_drop i rs, flatR_app]
  rw [List.length_append]; omega
theorem rnB_take {rs : List (Int × Ce)} {i : Nat} (h : i < rs.length) : rnB (rs.take (i + 1)) = rnB (rs.take i) ++ ubs (numsR (rs.getD i noRun)) := by rw [take_snoc rs noRun h, rnB_snoc]
theorem rnB_split {rs : List (Int × Ce)} {i : Nat} (h : i < rs.length) : rnB rs = rnB (rs.take i) ++ (ubs (numsR (rs.getD i noRun)) ++ rnB (rs.drop (i + 1))) := by
  have e : rs = rs.take (i + 1) ++ rs.drop (i + 1) := (List.take_append_drop _ _).symm
  conv => lhs; rw [e]
  unfold rnB at *
  rw [List.flatMap_append]
  have := rnB_take h
  unfold rnB at this
  rw [this, List.append_assoc]
abbrev rzBlk : Blk := ⟨48, 2, 0, [[.v (.slice none 0 0), .v (.bool false)]], none⟩
theorem numsR_bd2 {l : List Ce} (h : rowG l) (x : Int × Ce) (hx : x ∈ runsL l) : ∀ n ∈ numsR x, n ≤ 1114111 := by
  have hG := runsL_G l
  have h1 := hG.pos x hx
  have h2 := mayC_bd (rowG_mem h x.2 (hG.mem x hx))
  have h4 := h.1
  intro n hn
  simp only [numsR, List.mem_cons, List.not_mem_nil, or_false] at hn
  omega
section
variable {ys : List (Nat × LRec)} {lo : Nat} {H : AHeap} {l : List Ce} {wr : Bool}
theorem Get_run [OrcF oc] (hg : rowG l) (h0 : l ≠ []) : CallRo (ELo oc) ys lo 181 [.sl 1 (bytesL (pkB l wr))] H (.tup [.agg [.sl 3 (cesA l), .v (.bool wr)], .v (.int .i64 ((pkB l wr).length : Int)), .v (.int .i64 0)]) := by
  refine WC.pureR rfl fun lo' H' hh => ?_
  have hlo := lo_two hh
  have hl := hg.1
  have hG := runsL_G l
  have hgl := hG.len
  have hnb := numsR_bd hg
  have hhd : 0 ≤ headR l wr ∧ headR l wr ≤ 601 := by unfold headR; split <;> omega
  have hpk : pkB l wr = ub (headR l wr).toNat ++ rnB (runsL l) := rfl
  have hput := fun ys G x (hx : SlH G 3 x (cesA l)) => Put_run (ys := ys) (lo := lo') (wr := wr) hx hg h0
  have hpos := hG.pos
  have hflat := hG.flat
  generalize hrs : runsL l = rs at *
  have hhr : headR l wr = 2 * (rs.length : Int) + if wr = true then 1 else 0 := by unfold headR; rw [hrs]
  have hrl := rnB_len hnb
  generalize hhe : headR l wr = hd at *
  have hdl := ub_len6 hd.toNat (by omega)
  have hdp := ub_pos hd.toNat
  have hq2 : hd.tdiv 2 = (rs.length : Int) := by
    rw [Int.tdiv_eq_ediv_of_nonneg hhd.1, hhr]; split <;> omega
  have hm2 : decide (hd.tmod 2 = 1) = wr := by
    rw [Int.tmod_eq_emod_of_nonneg hhd.1, hhr]
    cases wr
    · rw [decide_eq_false_iff_not]; simp
    · rw [decide_eq_true_eq]; simp <;> omega
  have mk1 : ∀ G : AHeap, primL lo' G (makeSliceA (ELo oc) 59 (.v (.int .i64 1)) (.v (.int .i64 1))) = some (.os G.next 0 0 1, G.push ⟨3, 1, 0, ints (List.replicate 1 0), none⟩, ⟨0, 2 ^ G.next, 0⟩) := fun G => mk_int lo' G 1 (by omega)
  have mk4 : ∀ G : AHeap, primL lo' G (makeSliceA (ELo oc) 59 (.v (.int .i64 4)) (.v (.int .i64 4))) = some (.os G.next 0 0 4, G.push ⟨3, 1, 0, ints (List.replicate 4 0), none⟩, ⟨0, 2 ^ G.next, 0⟩) := fun G => mk_int lo' G 4 (by omega)
  have hbs : Sl 1 (.sl 1 (bytesL (pkB l wr))) (bytesL (ubs [hd] ++ rnB rs)) := .inl (by rw [hpk]; simp [ubs])
  have hub1 : ubs [hd] = ub hd.toNat := by simp [ubs]
  generalize hB : (AV.sl 1 (bytesL (pkB l wr))) = B at *
  have hN0 : ∀ ys, CallE (ELo oc) ys lo' 192 [B, .os (H'.next + 1) 0 0 1] ((H'.push rzBlk).push ⟨3, 1, 0, ints (List.replicate 1 0), none⟩) fun x G' => x = .v (.int .i64 ((ub hd.toNat).length : Int)) ∧ G'.next = H'.next + 2 ∧ G'.get (H'.next + 1) = some ⟨3, 1, 0, [[.v (.int .i64 hd)]], none⟩ ∧ Turn (fun k => k = H'.next + 1) ((H'.push rzBlk).push ⟨3, 1, 0, ints (List.replicate 1 0), none⟩) G' := fun ys => by
    have := numbers_run (ys := ys) (lo := lo') (H := (H'.push rzBlk).push ⟨3, 1, 0, ints (List.replicate 1 0), none⟩) (m := H'.next + 1) (e := 0) (vs := List.replicate 1 0) (ns := [hd]) (rest := rnB rs) hbs (by (first | omega | (simp only [next_push, next_set, next_empty]; done) | (simp only [next_push, next_set, next_empty]; omega))) (by omega) (by rw [get_push, if_pos (by (first | omega | (simp only [next_push, next_set, next_empty]; done) | (simp only [next_push, next_set, next_empty]; omega)))]) rfl (by simp) (by simp; omega) (by omega)
    rw [hub1] at this
    exact this
  refine zvin Tryz.func181 Tryz.ntmps181 ?_
  repeat' (first | refine zka ?_ | refine zkb ?_ | (apply RKp.op; ((try simp (disch := (first | exact zQ | fail)) only [plan_makeSlice, mk1, go_sem]); exact zL); rfl) | (apply RKp.callE; (apply hN0 <;> (exact zD)); (intro x; rfl)) | refine zkc ?_ | refine zz ?_ | refine zkd ?_ | refine zke ?_ | refine zkf ?_ | (refine RKg.split (fun h => ?_) (fun h => ?_) <;> (try rw [h]) <;> (replace h := zB h) <;> (try (exfalso; first | exact h | omega))) | refine zbt ?_ | apply V.regK | refine zva ?_ | refine zvb ?_ | refine zgc ?_ | refine zvd ?_ | refine zve ?_ | (refine zvf (fun h => ?_) (fun h => ?_) <;> (replace h := zB h) <;> (try (exfalso; first | exact h | omega))) | (refine FnQ.retB (resctt Tryz.results181) (by simp (disch := (first | exact zQ | fail)) only [cellR_op, plan_makeSlice, mk1, go_sem]; rfl) ?_; (try dsimp only)))
  rintro x H1 tr1 ⟨rfl, hn1, hg1, ht1⟩
  have hr1 : H1.get H'.next = some rzBlk := by rw [ht1.keep _ (by (first | omega | (simp only [next_push, next_set, next_empty]; done) | (simp only [next_push, next_set, next_empty]; omega))) (by omega), get_push, if_neg (by (first | omega | (simp only [next_push, next_set, next_empty]; done) | (simp only [next_push, next_set, next_empty]; omega))), get_push, if_pos rfl]
  unfold rzBlk at hr1
  have hBl : (ubs [hd] ++ rnB rs).length = (ub hd.toNat).length + (rnB rs).length := by rw [hub1, List.length_append]
  repeat' (first | refine zka ?_ | refine zkb ?_ | (apply RKp.op; ((try simp (disch := (first | exact zQ | fail)) only [hg1, hr1, hq2, hm2, go_sem]); exact zL); rfl) | refine zkc ?_ | refine zz ?_ | refine zkd ?_ | refine zke ?_ | refine zkf ?_ | (refine RKg.split (fun h => ?_) (fun h => ?_) <;> (try rw [h]) <;> (replace h := zB h) <;> (try (exfalso; first | exact h | omega))) | refine zbt ?_ | apply V.regK | refine zva ?_ | refine zvb ?_ | refine zgc ?_ | refine zvd ?_ | refine zve ?_ | (refine zvf (fun h => ?_) (fun h => ?_) <;> (replace h := zB h) <;> (try (exfalso; first | exact h | omega))) | (refine FnQ.retB (resctt Tryz.results181) (by simp (disch := (first | exact zQ | fail)) only [cellR_op, hg1, hr1, hq2, hm2, go_sem]; rfl) ?_; (try dsimp only)))
  have hr2 : ∀ b, (H1.push b).get H'.next = some rzBlk := fun b => by rw [get_push, if_neg (by omega)]; exact hr1
  apply V.lpS [36, 6, 3, 4, 8, 9, 37, 38, 39, 40, 41, 42, 43, 44, 45, 46, 47, 48, 49, 50, 51, 52, 53, 54, 55, 56, 57, 58, 59, 60, 61, 62, 63, 64, 65, 66, 67, 68, 69, 70, 71, 72, 73, 74, 75, 76] (fun k xs H2 => ∃ (i : Nat) (x : AV) (g : _), xs = .v (.int .i64 i) :: .v (.int .i64 (((ub hd.toNat).length + (rnB (rs.take i)).length : Nat) : Int)) :: g ∧ k = rs.length - i ∧ i ≤ rs.length ∧ H'.next + 3 ≤ H2.next ∧ H2.get H'.next = some rzBlk ∧ H2.get H1.next = some ⟨48, 2, 0, [[x, .v (.bool wr)]], none⟩ ∧ OwS H2 (H'.next + 3) 52 3 x (cesA (flatR (rs.take i)))) rs.length
  focus (intro xs; simp only [putMany, set2, Nat.reduceAdd, Nat.reduceDiv, Nat.reduceMod, nth_zero, nth_succ, List.set_cons_zero, List.set_cons_succ]; rfl)
  focus (first | rfl | simp only [readMany, nth_zero, nth_succ, Nat.reduceDiv, Nat.reduceMod])
  · exact ⟨0, _, _, rfl, rfl, Nat.zero_le _, by (first | omega | (simp only [next_push, next_set, next_empty]; done) | (simp only [next_push, next_set, next_empty]; omega)), hr2 _, by rw [get_push, if_pos (by omega)], OwS.nil _ _ _ _⟩
  · rintro k xs H2 ⟨i, x, g, rfl, rfl, hi, hn2, hz2, hr7, ho⟩
    by_cases hlt : i < rs.length
    · have hmem := getMemK noRun hlt
      have hnbx := hnb _ hmem
      have hpx := hpos _ hmem
      have hsp := rnB_split hlt
      have hrt := rnB_take hlt
      have hft := flatR_take hlt
      have hfl := flatR_le rs (i + 1)
      rw [hflat] at hfl
      have hspl := congrArg List.length hsp
      simp only [List.length_append] at hspl
      have hnb2 := numsR_bd2 hg _ (by rw [hrs]; exact hmem)
      generalize rs.getD i noRun = y at *
      have q1 := hnbx y.1 (by simp [numsR])
      have q2 := hnbx y.2.r (by simp [numsR])
      have q3 := hnbx y.2.w (by simp [numsR])
      have q4 := hnbx y.2.a (by simp [numsR])
      have hul : 1 ≤ (ubs (numsR y)).length := by
        have := ub_pos y.1.toNat
        show 1 ≤ (ub y.1.toNat ++ _).length
        rw [List.length_append]; omega
      have hcut : Sl 1 (cutA B ((ub hd.toNat).length + (rnB (rs.take i)).length) (ubs [hd] ++ rnB rs).length) (bytesL (ubs (numsR y) ++ rnB (rs.drop (i + 1)))) := by
        have := Sl_cutB (l := (ub hd.toNat).length + (rnB (rs.take i)).length) (r := (ubs [hd] ++ rnB rs).length) hbs
        have e : ((ubs [hd] ++ rnB rs).drop ((ub hd.toNat).length + (rnB (rs.take i)).length)).take ((ubs [hd] ++ rnB rs).length - ((ub hd.toNat).length + (rnB (rs.take i)).length)) = ubs (numsR y) ++ rnB (rs.drop (i + 1)) := by
          rw [hub1, hsp, ← List.append_assoc, ← List.length_append, List.drop_left]
          exact List.take_of_length_le (by simp only [List.length_append]; omega)
        rw [e] at this
        exact this
      have slB : ∀ G, primL lo' G (sliceA (ELo oc) 79 B (some (.v (.int .i64 (((ub hd.toNat).length + (rnB (rs.take i)).length : Nat) : Int)))) none none) = some (cutA B ((ub hd.toNat).length + (rnB (rs.take i)).length) (ubs [hd] ++ rnB rs).length, G, rdTr B) := fun G => slB_lo lo' (.inl hbs : SlH G 1 B (bytesL (ubs [hd] ++ rnB rs))) G (Ext.refl _) .i64 _ (by omega) (by omega)
      have hN : ∀ ys, CallE (ELo oc) ys lo' 192 [cutA B ((ub hd.toNat).length + (rnB (rs.take i)).length) (ubs [hd] ++ rnB rs).length, .os H2.next 0 0 4] (H2.push ⟨3, 1, 0, ints (List.replicate 4 0), none⟩) fun x G' => x = .v (.int .i64 ((ubs (numsR y)).length : Int)) ∧ G'.next = H2.next + 1 ∧ G'.get H2.next = some ⟨3, 1, 0, [[.v (.int .i64 y.1)], [.v (.int .i64 y.2.r)], [.v (.int .i64 y.2.w)], [.v (.int .i64 y.2.a)]], none⟩ ∧ Turn (fun k => k = H2.next) (H2.push ⟨3, 1, 0, ints (List.replicate 4 0), none⟩) G' := fun ys => by
        have := numbers_run (ys := ys) (lo := lo') (H := H2.push ⟨3, 1, 0, ints (List.replicate 4 0), none⟩) (m := H2.next) (e := 0) (vs := List.replicate 4 0) (ns := numsR y) (rest := rnB (rs.drop (i + 1))) hcut (by (first | omega | (simp only [next_push, next_set, next_empty]; done) | (simp only [next_push, next_set, next_empty]; omega))) (by omega) (by rw [get_push, if_pos rfl]) rfl (by simp [numsR]) (fun n hn => by have := hnb2 n hn; have := hnbx n hn; omega) (by omega)
        exact this
      repeat' (first | refine zka ?_ | refine zkb ?_ | (apply RKp.op; ((try simp (disch := (first | exact zQ | fail)) only [plan_makeSlice, mk4, slB, go_sem]); exact zL); rfl) | (apply RKp.callE; (apply hN <;> (exact zD)); (intro x; rfl)) | refine zkc ?_ | refine zz ?_ | refine zkd ?_ | refine zke ?_ | refine zkf ?_ | (refine RKg.split (fun h => ?_) (fun h => ?_) <;> (try rw [h]) <;> (replace h := zB h) <;> (try (exfalso; first | exact h | omega))) | refine zbt ?_ | apply V.regK | refine zva ?_ | refine zvb ?_ | refine zgc ?_ | refine zvd ?_ | refine zve ?_ | (refine zvf (fun h => ?_) (fun h => ?_) <;> (replace h := zB h) <;> (try (exfalso; first | exact h | omega))) | (refine FnQ.retB (resctt Tryz.results181) (by simp (disch := (first | exact zQ | fail)) only [cellR_op, plan_makeSlice, mk4, slB, go_sem]; rfl) ?_; (try dsimp only)))
      rintro x3 H3 tr3 ⟨rfl, hn3, hg3, ht3⟩
      have hr3 : H3.get H1.next = some ⟨48, 2, 0, [[x, .v (.bool wr)]], none⟩ := by rw [ht3.keep _ (by (first | omega | (simp only [next_push, next_set, next_empty]; done) | (simp only [next_push, next_set, next_empty]; omega))) (by omega), get_push, if_neg (by omega)]; exact hr7
      have hz3 : H3.get H'.next = some rzBlk := by rw [ht3.keep _ (by (first | omega | (simp only [next_push, next_set, next_empty]; done) | (simp only [next_push, next_set, next_empty]; omega))) (by omega), get_push, if_neg (by omega)]; exact hz2
      have ho3 : OwS H3 (H'.next + 3) 52 3 x (cesA (flatR (rs.take i))) := ho.on (by omega) fun k h1 h2 => by rw [ht3.keep _ (by (first | omega | (simp only [next_push, next_set, next_empty]; done) | (simp only [next_push, next_set, next_empty]; omega))) (by omega), get_push, if_neg (by omega)]
      have hRep : ∀ ys, CallRo (ELo oc) ys lo' 110 [.os H3.next 0 0 1, .v (.int .i64 y.1)] (H3.push (cblk 0 [y.2])) (.sl 3 (cesA (List.replicate y.1.toNat y.2))) := fun ys => by
        have := RepeatC_run (ys := ys) (lo := lo') (H := H3.push (cblk 0 [y.2])) H3.next y.1.toNat y.2 (by (first | omega | (simp only [next_push, next_set, next_empty]; done) | (simp only [next_push, next_set, next_empty]; omega))) (by rw [get_push, if_pos rfl]) (by omega)
        rw [Int.toNat_of_nonneg q1.1] at this
        exact this
      obtain ⟨x5, H5, tr5, hap, ho5, hx5, hf5, hj5, hm5⟩ := (ho3.push (cblk 0 [y.2])).addN (ELo oc) lo' app_cell (y := .sl 3 (cesA (List.replicate y.1.toNat y.2))) (.inl (.inl rfl)) (fun k _ hk2 => by obtain ⟨_, _, _, z⟩ := hk2; cases z) (by omega) (by (first | omega | (simp only [next_push, next_set, next_empty]; done) | (simp only [next_push, next_set, next_empty]; omega))) (by rw [ces_len, ces_len, ← List.length_append, ← hft]; unfold roomMax; omega)
      rw [next_push] at hx5
      rw [cesA, cesA, ← List.map_append, ← hft] at ho5
      have hkp : ∀ k, k < H'.next + 3 → H5.get k = H3.get k := fun k hk => by rw [hf5 k (by (first | omega | (simp only [next_push, next_set, next_empty]; done) | (simp only [next_push, next_set, next_empty]; omega))) (fun q => by have := ho3.nm q; omega), get_push, if_neg (by omega)]
      have hr5 : H5.get H1.next = some ⟨48, 2, 0, [[x, .v (.bool wr)]], none⟩ := by rw [hkp _ (by omega)]; exact hr3
      have hcx := ho.cells
      have hcx5 := ho5.cells
      unfold cblk at hRep hap
      simp only [cesA, List.map_cons, List.map_nil] at hRep hap
      repeat' (first | refine zka ?_ | refine zkb ?_ | (apply RKp.op; ((try simp (disch := (first | exact zQ | fail)) only [hg3, hr3, hr5, hap, hcx, hcx5, go_sem]); exact zL); rfl) | (apply RKp.callR; (apply hRep <;> (exact zD)); rfl; intro tr htr) | refine zkc ?_ | refine zz ?_ | refine zkd ?_ | refine zke ?_ | refine zkf ?_ | (refine RKg.split (fun h => ?_) (fun h => ?_) <;> (try rw [h]) <;> (replace h := zB h) <;> (try (exfalso; first | exact h | omega))) | refine zbt ?_ | apply V.regK | refine zva ?_ | refine zvb ?_ | refine zgc ?_ | refine zvd ?_ | refine zve ?_ | (refine zvf (fun h => ?_) (fun h => ?_) <;> (replace h := zB h) <;> (try (exfalso; first | exact h | omega))) | (refine FnQ.retB (resctt Tryz.results181) (by simp (disch := (first | exact zQ | fail)) only [cellR_op, hg3, hr3, hr5, hap, hcx, hcx5, go_sem]; rfl) ?_; (try dsimp only)))
      have hat : (((ub hd.toNat).length + (rnB (rs.take (i + 1))).length : Nat) : Int) = (((ub hd.toNat).length + (rnB (rs.take i)).length : Nat) : Int) + ((ubs (numsR y)).length : Int) := by rw [hrt, List.length_append]; omega
      refine LoopS.again (rs.length - (i + 1)) (by rfl) (by omega) ⟨i + 1, x5, _, by rw [hat]; rfl, rfl, by omega, by (first | omega | (simp only [next_push, next_set, next_empty]; done) | (simp only [next_push, next_set, next_empty]; omega)), ?_, ?_, ho5.set (by omega) _⟩
      · rw [get_set, if_neg (by omega), hkp _ (by omega)]; exact hz3
      · rw [get_set, if_pos rfl]
    · have e : i = rs.length := by omega
      subst e
      rw [List.take_length] at ho ⊢
      rw [hflat] at ho
      have hN : (ub hd.toNat).length + (rnB rs).length = (ubs [hd] ++ rnB rs).length := hBl.symm
      have hNp : (ubs [hd] ++ rnB rs).length = (pkB l wr).length := by rw [hpk, hub1]
      have hput2 := fun ys => hput ys H2 x ho.slh
      have slH : ∀ G, primL lo' G (sliceA (ELo oc) 79 B none (some (.v (.int .i64 (((ub hd.toNat).length + (rnB rs).length : Nat) : Int)))) none) = some (cutA B 0 ((ub hd.toNat).length + (rnB rs).length), G, rdTr B) := fun G => slB_hi lo' (.inl hbs : SlH G 1 B (bytesL (ubs [hd] ++ rnB rs))) G (Ext.refl _) .i64 _ (by omega) (by omega)
      have hcut : Sl 1 (cutA B 0 ((ub hd.toNat).length + (rnB rs).length)) (bytesL (ubs [hd] ++ rnB rs)) := by
        have := Sl_cutB (l := 0) (r := (ub hd.toNat).length + (rnB rs).length) hbs
        rw [List.drop_zero, Nat.sub_zero, List.take_of_length_le (by omega)] at this
        exact this
      have hEq : ∀ ys, CallRo (ELo oc) ys lo' 193 [B, cutA B 0 ((ub hd.toNat).length + (rnB rs).length)] H2 (.v (.bool true)) := fun ys => by
        have := EqB_run (ys := ys) (lo := lo') (H := H2) (.inl hbs) (.inl hcut) (by omega) (by omega)
        rw [decide_eq_true rfl] at this
        exact this
      have hcx := ho.cells
      have hz2' := hz2
      unfold rzBlk at hz2'
      repeat' (first | refine zka ?_ | refine zkb ?_ | (apply RKp.op; ((try simp (disch := (first | exact zQ | fail)) only [hr7, hz2', slH, hcx, go_sem]); exact zL); rfl) | (apply RKp.call; (apply hput2 <;> (exact zD)); rfl) | (apply RKp.callR; ((first | apply hput2 | apply hEq) <;> (exact zD)); rfl; intro tr htr) | (apply RKp.callO; (apply hput2 <;> (exact zD)); rfl; intro tr) | (apply RKp.callRE; (apply hput2 <;> (exact zD)); (intro x; rfl)) | (apply RKp.callE; (apply hput2 <;> (exact zD)); (intro x; rfl)) | refine zkc ?_ | refine zz ?_ | refine zkd ?_ | refine zke ?_ | refine zkf ?_ | (refine RKg.split (fun h => ?_) (fun h => ?_) <;> (try rw [h]) <;> (replace h := zB h) <;> (try (exfalso; first | exact h | omega))) | refine zbt ?_ | apply V.regK | refine zva ?_ | refine zvb ?_ | refine zgc ?_ | refine zvd ?_ | refine zve ?_ | (refine zvf (fun h => ?_) (fun h => ?_) <;> (replace h := zB h) <;> (try (exfalso; first | exact h | omega))) | (refine FnQ.retB (resctt Tryz.results181) (by simp (disch := (first | exact zQ | fail)) only [cellR_op, hr7, hz2', slH, hcx, go_sem]; rfl) ?_; (try dsimp only)))
      have hfz : frzC (H2.set H'.next ⟨48, 2, 0, [[x, .v (.bool wr)]], none⟩) lo' x = .sl 3 (cesA l) := by
        rcases ho with ⟨z, _⟩ | ⟨k, e, rfl, z2, z3, z4⟩
        · exact absurd (ces_nil.1 z) h0
        · have hb' : (H2.set H'.next ⟨48, 2, 0, [[.os k e 0 (cesA l).length, .v (.bool wr)]], none⟩).get k = some ⟨52, 3, e, cesA l, none⟩ := by rw [get_set, if_neg (by omega)]; exact z4
          rw [frzC_os _ lo' (by omega) hb' rfl rfl (by simp) (show 0 < 3 by decide) (flat_ces _)]
          rw [List.drop_zero, List.take_of_length_le (Nat.le_refl _)]
      rw [frzR_tup]
      simp only [List.map_cons, List.map_nil, frzR1_v, frzR1_agg, frzC_v, hfz]
      rw [hN, hNp]
end
end Go.Am
